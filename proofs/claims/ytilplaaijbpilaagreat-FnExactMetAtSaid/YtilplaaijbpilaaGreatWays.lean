/- Scans: which are valid, where they put a thing. -/
import Derived.Test.YtilplaaijbpilaaGreatNet
import Derived.Test.YtilplaaijbpilaaGreatLac
import Derived.Test.YtilplaaijbpilaaGreatLab
import Derived.Test.YtilplaaijbpilaaGreatLad
set_option linter.unusedVariables false
set_option linter.unusedSimpArgs false
set_option linter.unusedSectionVars false
namespace Go.Vs
open Go.IntWalk
def scB (n:Network) (s:Scan):Bool:=
 netB n&&(decide (1≤s.Thing∧s.Thing≤9999)&&(decide (0≤s.At∧s.At≤100000)&&
 (if s.Kind=1∨s.Kind=4 then decide (s.Place∈plc n)&&decide (s.Trip.Leg=0∧s.Trip.Day=0)
  else if s.Kind=3 then decide (s.Place=str_k0)&&(runsB n s.Trip.Leg s.Trip.Day&&decide (s.At≤stN n s.Trip.Leg s.Trip.Day))
  else if s.Kind=2 then decide (s.Place=str_k0)&&(runsB n s.Trip.Leg s.Trip.Day&&decide (enN n s.Trip.Leg s.Trip.Day≤s.At)) else false)))
theorem Bp {n:Network} (ht:n.tot≤1048576) (s:Scan):gf G.real TE.real n s=some (scB n s):=by
 unfold gf scB
 rw[tC ht]
 cases hb:netB n with
 |false=>rfl
 |true=>
  have hn:=lu ht hb
  have hl:=hn.len
  have pl:=fX n
  have htr:∀q:Trip,jW G.real TE.real n q=some (runsB n q.Leg q.Day):=fun q=>by rw[FC ht];unfold jY;rw[hb];rfl
  simp only[af,bd,az,mJ,am,cB,iI,gL,tR,Bool.true_and,htr]
  rw[wq (by omega)]
  simp only[af,tS (show(plc n).length≤4194304 by omega),pt]
  by_cases h1:1≤s.Thing∧s.Thing≤9999
  ·rw[if_pos h1,decide_eq_true h1,Bool.true_and]
   by_cases h2:0≤s.At∧s.At≤100000
   ·rw[if_pos h2,decide_eq_true h2,Bool.true_and]
    have hal:(List.all [decide (s.Trip.Leg=0),decide (s.Trip.Day=0)] id)=decide (s.Trip.Leg=0∧s.Trip.Day=0):=by simp
    by_cases k1:s.Kind=1
    ·rw[if_pos k1,if_pos (c:=s.Kind=1∨s.Kind=4) (.inl k1),hal]
     by_cases hp:s.Place∈plc n
     ·rw[if_pos hp,decide_eq_true hp];rfl
     ·rw[if_neg hp,decide_eq_false hp];rfl
    ·rw[if_neg k1]
     by_cases k4:s.Kind=4
     ·rw[if_pos k4,if_pos (c:=s.Kind=1∨s.Kind=4) (.inr k4),hal]
      by_cases hp:s.Place∈plc n
      ·rw[if_pos hp,decide_eq_true hp];rfl
      ·rw[if_neg hp,decide_eq_false hp];rfl
     ·rw[if_neg k4,if_neg (c:=s.Kind=1∨s.Kind=4) (fun h=>h.elim k1 k4)]
      by_cases k3:s.Kind=3
      ·rw[if_pos k3,if_pos k3]
       by_cases hp:s.Place=str_k0
       ·rw[if_pos hp,decide_eq_true hp,Bool.true_and]
        cases hr:runsB n s.Trip.Leg s.Trip.Day with
        |false=>rfl
        |true=>
         obtain⟨r1,r2,r3,r4⟩:=gm (n:=n) (by omega) hr
         rw[bd,kb hn r1 r2 r3 r4];rfl
       ·rw[if_neg hp,decide_eq_false hp];rfl
      ·rw[if_neg k3,if_neg k3]
       by_cases k2:s.Kind=2
       ·rw[if_pos k2,if_pos k2]
        by_cases hp:s.Place=str_k0
        ·rw[if_pos hp,decide_eq_true hp,Bool.true_and]
         cases hr:runsB n s.Trip.Leg s.Trip.Day with
         |false=>rfl
         |true=>
          obtain⟨r1,r2,r3,r4⟩:=gm (n:=n) (by omega) hr
          rw[bd,tY hn r1 r2 r3 r4];rfl
        ·rw[if_neg hp,decide_eq_false hp];rfl
       ·rw[if_neg k2,if_neg k2]
   ·rw[if_neg h2,decide_eq_false h2];rfl
  ·rw[if_neg h1,decide_eq_false h1];rfl
theorem Aq {n:Network} (ht:n.tot≤1048576) (s:Scan):gc G.real TE.real n s=some (scB n s):=by
 unfold gc scB
 rw[zi ht]
 cases hb:netB n with
 |false=>rfl
 |true=>
  have hn:=lu ht hb
  have hl:=hn.len
  have pl:=fX n
  have htr:∀q:Trip,iJ G.real TE.real n q=some (runsB n q.Leg q.Day):=fun q=>by rw[CR ht];unfold jY;rw[hb];rfl
  simp only[af,bd,az,pC,am,cB,iI,gL,tR,Bool.true_and,htr]
  rw[sB (by omega)]
  simp only[af,xd (show(plc n).length≤4194304 by omega),pt]
  by_cases h1:1≤s.Thing∧s.Thing≤9999
  ·rw[if_pos h1,decide_eq_true h1,Bool.true_and]
   by_cases h2:0≤s.At∧s.At≤100000
   ·rw[if_pos h2,decide_eq_true h2,Bool.true_and]
    have hal:(List.all [decide (s.Trip.Leg=0),decide (s.Trip.Day=0)] id)=decide (s.Trip.Leg=0∧s.Trip.Day=0):=by simp
    by_cases k1:s.Kind=1
    ·rw[if_pos k1,if_pos (c:=s.Kind=1∨s.Kind=4) (.inl k1),hal]
     by_cases hp:s.Place∈plc n
     ·rw[if_pos hp,decide_eq_true hp];rfl
     ·rw[if_neg hp,decide_eq_false hp];rfl
    ·rw[if_neg k1]
     by_cases k4:s.Kind=4
     ·rw[if_pos k4,if_pos (c:=s.Kind=1∨s.Kind=4) (.inr k4),hal]
      by_cases hp:s.Place∈plc n
      ·rw[if_pos hp,decide_eq_true hp];rfl
      ·rw[if_neg hp,decide_eq_false hp];rfl
     ·rw[if_neg k4,if_neg (c:=s.Kind=1∨s.Kind=4) (fun h=>h.elim k1 k4)]
      by_cases k3:s.Kind=3
      ·rw[if_pos k3,if_pos k3]
       by_cases hp:s.Place=str_k0
       ·rw[if_pos hp,decide_eq_true hp,Bool.true_and]
        cases hr:runsB n s.Trip.Leg s.Trip.Day with
        |false=>rfl
        |true=>
         obtain⟨r1,r2,r3,r4⟩:=gm (n:=n) (by omega) hr
         rw[bd,jd hn r1 r2 r3 r4];rfl
       ·rw[if_neg hp,decide_eq_false hp];rfl
      ·rw[if_neg k3,if_neg k3]
       by_cases k2:s.Kind=2
       ·rw[if_pos k2,if_pos k2]
        by_cases hp:s.Place=str_k0
        ·rw[if_pos hp,decide_eq_true hp,Bool.true_and]
         cases hr:runsB n s.Trip.Leg s.Trip.Day with
         |false=>rfl
         |true=>
          obtain⟨r1,r2,r3,r4⟩:=gm (n:=n) (by omega) hr
          rw[bd,tQ hn r1 r2 r3 r4];rfl
        ·rw[if_neg hp,decide_eq_false hp];rfl
       ·rw[if_neg k2,if_neg k2]
   ·rw[if_neg h2,decide_eq_false h2];rfl
  ·rw[if_neg h1,decide_eq_false h1];rfl
structure ScOk (n:Network) (s:Scan):Prop where
 net:netB n=true
 thing:1≤s.Thing∧s.Thing≤9999
 time:0≤s.At∧s.At≤100000
 kind:s.Kind=1∨s.Kind=2∨s.Kind=3∨s.Kind=4
 at_:s.Kind=1∨s.Kind=4→s.Place∈plc n∧s.Trip.Leg=0∧s.Trip.Day=0
 load:s.Kind=3→s.Place=str_k0∧runsB n s.Trip.Leg s.Trip.Day=true∧s.At≤stN n s.Trip.Leg s.Trip.Day
 drop:s.Kind=2→s.Place=str_k0∧runsB n s.Trip.Leg s.Trip.Day=true∧enN n s.Trip.Leg s.Trip.Day≤s.At
theorem iX {n:Network} {s:Scan} (h:scB n s=true):ScOk n s:=by
 unfold scB at h
 simp only[Bool.and_eq_true,decide_eq_true_eq] at h
 obtain⟨h1,h2,h3,h4⟩:=h
 by_cases k1:s.Kind=1∨s.Kind=4
 ·rw[if_pos k1] at h4
  simp only[Bool.and_eq_true,decide_eq_true_eq] at h4
  exact⟨h1,h2,h3,by omega,fun _=>h4,fun h=>by omega,fun h=>by omega⟩
 ·rw[if_neg k1] at h4
  by_cases k3:s.Kind=3
  ·rw[if_pos k3] at h4
   simp only[Bool.and_eq_true,decide_eq_true_eq] at h4
   exact⟨h1,h2,h3,by omega,fun h=>absurd h k1,fun _=>h4,fun h=>by omega⟩
  ·rw[if_neg k3] at h4
   by_cases k2:s.Kind=2
   ·rw[if_pos k2] at h4
    simp only[Bool.and_eq_true,decide_eq_true_eq] at h4
    exact⟨h1,h2,h3,by omega,fun h=>absurd h k1,fun h=>absurd h k3,fun _=>h4⟩
   ·rw[if_neg k2] at h4;cases h4
theorem dg {n:Network} (ht:n.tot≤1048576) {s:Scan} (h:ScOk n s) (hk:s.Kind=3∨s.Kind=2):NetOk n∧runsB n s.Trip.Leg s.Trip.Day=true∧0≤s.Trip.Leg∧s.Trip.Leg<n.Legs.length∧0≤s.Trip.Day∧s.Trip.Day≤60:=by
 have hn:=lu ht h.net
 have hl:=hn.len
 have hr:runsB n s.Trip.Leg s.Trip.Day=true:=by
  rcases hk with hk|hk
  ·exact(h.load hk).2.1
  ·exact(h.drop hk).2.1
 obtain⟨r1,r2,r3,r4⟩:=gm (n:=n) (by omega) hr
 exact⟨hn,hr,r1,r2,r3,r4⟩
def plB (n:Network) (s:Scan):ByteArray:=if scB n s=true then(if s.Kind=3 then(fw n s.Trip.Leg).From else if s.Kind=2 then(fw n s.Trip.Leg).To else s.Place) else str_k0
def bhB (n:Network) (s:Scan):Spot:=if scB n s=true then(if s.Kind=3 then⟨(fw n s.Trip.Leg).To,enN n s.Trip.Leg s.Trip.Day⟩ else⟨plB n s,s.At⟩) else⟨.empty,0⟩
def bfB (n:Network) (s:Scan):Spot:=if scB n s=true then(if s.Kind=3∨s.Kind=2 then⟨(fw n s.Trip.Leg).From,stN n s.Trip.Leg s.Trip.Day⟩ else⟨s.Place,s.At⟩) else⟨.empty,0⟩
theorem pl_i {n:Network} (ht:n.tot≤1048576) (s:Scan):kS G.real TE.real n s=some (plB n s):=by
 unfold kS plB
 rw[Bp ht]
 cases hb:scB n s with
 |false=>simp
 |true=>
  have hk:=iX hb
  simp only[af,bd,cB,am,aQ,if_true]
  by_cases k3:s.Kind=3
  ·obtain⟨_,_,r1,r2,_⟩:=dg ht hk (.inl k3)
   rw[if_pos k3,if_pos k3,ag r1,ar (c8 r1 r2)]
  ·rw[if_neg k3,if_neg k3]
   by_cases k2:s.Kind=2
   ·obtain⟨_,_,r1,r2,_⟩:=dg ht hk (.inr k2)
    rw[if_pos k2,if_pos k2,ag r1,ar (c8 r1 r2)]
   ·rw[if_neg k2,if_neg k2]
theorem Gt {n:Network} (ht:n.tot≤1048576) (s:Scan):bE G.real TE.real n s=some (bhB n s):=by
 unfold bE bhB
 rw[Bp ht,pl_i ht]
 cases hb:scB n s with
 |false=>simp
 |true=>
  have hk:=iX hb
  simp only[af,bd,cB,am,aQ,if_true]
  by_cases k3:s.Kind=3
  ·obtain⟨hn,_,r1,r2,r3,r4⟩:=dg ht hk (.inl k3)
   rw[if_pos k3,if_pos k3,ag r1,ar (c8 r1 r2),tY hn r1 r2 r3 r4];rfl
  ·rw[if_neg k3,if_neg k3]
theorem GT {n:Network} (ht:n.tot≤1048576) (s:Scan):bC G.real TE.real n s=some (bfB n s):=by
 unfold bC bfB
 rw[Bp ht]
 cases hb:scB n s with
 |false=>simp
 |true=>
  have hk:=iX hb
  simp only[af,bd,cB,am,aQ,if_true]
  by_cases k3:s.Kind=3
  ·obtain⟨hn,_,r1,r2,r3,r4⟩:=dg ht hk (.inl k3)
   rw[if_pos k3,if_pos (.inl k3),ag r1,ar (c8 r1 r2),kb hn r1 r2 r3 r4];rfl
  ·rw[if_neg k3]
   by_cases k2:s.Kind=2
   ·obtain⟨hn,_,r1,r2,r3,r4⟩:=dg ht hk (.inr k2)
    rw[if_pos k2,if_pos (.inr k2),ag r1,ar (c8 r1 r2),kb hn r1 r2 r3 r4];rfl
   ·rw[if_neg k2,if_neg (fun h=>h.elim k3 k2)]
theorem pl_s {n:Network} (ht:n.tot≤1048576) (s:Scan):kJ G.real TE.real n s=some (plB n s):=by
 unfold kJ plB
 rw[Aq ht]
 cases hb:scB n s with
 |false=>simp
 |true=>
  have hk:=iX hb
  simp only[af,bd,cB,am,aQ,if_true]
  by_cases k3:s.Kind=3
  ·obtain⟨_,_,r1,r2,_⟩:=dg ht hk (.inl k3)
   rw[if_pos k3,if_pos k3,ag r1,ar (c8 r1 r2)]
  ·rw[if_neg k3,if_neg k3]
   by_cases k2:s.Kind=2
   ·obtain⟨_,_,r1,r2,_⟩:=dg ht hk (.inr k2)
    rw[if_pos k2,if_pos k2,ag r1,ar (c8 r1 r2)]
   ·rw[if_neg k2,if_neg k2]
theorem F5 {n:Network} (ht:n.tot≤1048576) (s:Scan):aM G.real TE.real n s=some (bhB n s):=by
 unfold aM bhB
 rw[Aq ht,pl_s ht]
 cases hb:scB n s with
 |false=>simp
 |true=>
  have hk:=iX hb
  simp only[af,bd,cB,am,aQ,if_true]
  by_cases k3:s.Kind=3
  ·obtain⟨hn,_,r1,r2,r3,r4⟩:=dg ht hk (.inl k3)
   rw[if_pos k3,if_pos k3,ag r1,ar (c8 r1 r2),tQ hn r1 r2 r3 r4];rfl
  ·rw[if_neg k3,if_neg k3]
theorem HQ {n:Network} (ht:n.tot≤1048576) (s:Scan):ea G.real TE.real n s=some (bfB n s):=by
 unfold ea bfB
 rw[Aq ht]
 cases hb:scB n s with
 |false=>simp
 |true=>
  have hk:=iX hb
  simp only[af,bd,cB,am,aQ,if_true]
  by_cases k3:s.Kind=3
  ·obtain⟨hn,_,r1,r2,r3,r4⟩:=dg ht hk (.inl k3)
   rw[if_pos k3,if_pos (.inl k3),ag r1,ar (c8 r1 r2),jd hn r1 r2 r3 r4];rfl
  ·rw[if_neg k3]
   by_cases k2:s.Kind=2
   ·obtain⟨hn,_,r1,r2,r3,r4⟩:=dg ht hk (.inr k2)
    rw[if_pos k2,if_pos (.inr k2),ag r1,ar (c8 r1 r2),jd hn r1 r2 r3 r4];rfl
   ·rw[if_neg k2,if_neg (fun h=>h.elim k3 k2)]
end Go.Vs
