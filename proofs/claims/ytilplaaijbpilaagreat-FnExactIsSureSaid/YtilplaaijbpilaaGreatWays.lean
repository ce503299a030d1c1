/- Scans: which are valid, where they put a thing. -/
import Derived.Test.YtilplaaijbpilaaGreatNet
import Derived.Test.YtilplaaijbpilaaGreatLab
import Derived.Test.YtilplaaijbpilaaGreatLaa
import Derived.Test.YtilplaaijbpilaaGreatLac
set_option linter.unusedVariables false
set_option linter.unusedSimpArgs false
set_option linter.unusedSectionVars false
namespace Go.Vs
open Go.IntWalk
def scB (n:Network) (s:Scan):Bool:=
 netB n&&(decide (1≤s.Thing∧s.Thing≤9999)&&(decide (0≤s.At∧s.At≤100000)&&
 (if s.Kind=1∨s.Kind=4 then decide (s.Place∈plc n)&&decide (s.Trip.Leg=0∧s.Trip.Day=0)
  else if s.Kind=3 then decide (s.Place=str_k0)&&(runsB n s.Trip.Leg s.Trip.Day&&decide (s.At≤stN n s.Trip.Leg s.Trip.Day))
  else if s.Kind=2 then decide (s.Place=str_k0)&&(runsB n s.Trip.Leg s.Trip.Day&&decide (enN n s.Trip.Leg s.Trip.Day≤s.At)) else false)))
theorem B0 {n:Network} (ht:n.tot≤1048576) (s:Scan):iA G.real TE.real n s=some (scB n s):=by
 unfold iA scB
 rw[uY ht]
 cases hb:netB n with
 |false=>rfl
 |true=>
  have hn:=nl ht hb
  have hl:=hn.len
  have pl:=hJ n
  have htr:∀q:Trip,ky G.real TE.real n q=some (runsB n q.Leg q.Day):=fun q=>by rw[Ec ht];unfold kO;rw[hb];rfl
  simp only[ag,ba,aA,oH,ao,co,kH,iR,vn,Bool.true_and,htr]
  rw[vc (by omega)]
  simp only[ag,tu (show(plc n).length≤4194304 by omega),rl]
  by_cases h1:1≤s.Thing∧s.Thing≤9999
  ·rw[if_pos h1,decide_eq_true h1,Bool.true_and]
   by_cases h2:0≤s.At∧s.At≤100000
   ·rw[if_pos h2,decide_eq_true h2,Bool.true_and]
    have hal:(List.all [decide (s.Trip.Leg=0),decide (s.Trip.Day=0)] id)=decide (s.Trip.Leg=0∧s.Trip.Day=0):=by simp
    by_cases k1:s.Kind=1
    ·rw[if_pos k1,if_pos (c:=s.Kind=1∨s.Kind=4) (.inl k1),hal]
     by_cases hp:s.Place∈plc n
     ·rw[if_pos hp,decide_eq_true hp];rfl
     ·rw[if_neg hp,decide_eq_false hp];rfl
    ·rw[if_neg k1]
     by_cases k4:s.Kind=4
     ·rw[if_pos k4,if_pos (c:=s.Kind=1∨s.Kind=4) (.inr k4),hal]
      by_cases hp:s.Place∈plc n
      ·rw[if_pos hp,decide_eq_true hp];rfl
      ·rw[if_neg hp,decide_eq_false hp];rfl
     ·rw[if_neg k4,if_neg (c:=s.Kind=1∨s.Kind=4) (fun h=>h.elim k1 k4)]
      by_cases k3:s.Kind=3
      ·rw[if_pos k3,if_pos k3]
       by_cases hp:s.Place=str_k0
       ·rw[if_pos hp,decide_eq_true hp,Bool.true_and]
        cases hr:runsB n s.Trip.Leg s.Trip.Day with
        |false=>rfl
        |true=>
         obtain⟨r1,r2,r3,r4⟩:=iH (n:=n) (by omega) hr
         rw[ba,mc hn r1 r2 r3 r4];rfl
       ·rw[if_neg hp,decide_eq_false hp];rfl
      ·rw[if_neg k3,if_neg k3]
       by_cases k2:s.Kind=2
       ·rw[if_pos k2,if_pos k2]
        by_cases hp:s.Place=str_k0
        ·rw[if_pos hp,decide_eq_true hp,Bool.true_and]
         cases hr:runsB n s.Trip.Leg s.Trip.Day with
         |false=>rfl
         |true=>
          obtain⟨r1,r2,r3,r4⟩:=iH (n:=n) (by omega) hr
          rw[ba,vq hn r1 r2 r3 r4];rfl
        ·rw[if_neg hp,decide_eq_false hp];rfl
       ·rw[if_neg k2,if_neg k2]
   ·rw[if_neg h2,decide_eq_false h2];rfl
  ·rw[if_neg h1,decide_eq_false h1];rfl
theorem CC {n:Network} (ht:n.tot≤1048576) (s:Scan):iy G.real TE.real n s=some (scB n s):=by
 unfold iy scB
 rw[A3 ht]
 cases hb:netB n with
 |false=>rfl
 |true=>
  have hn:=nl ht hb
  have hl:=hn.len
  have pl:=hJ n
  have htr:∀q:Trip,kx G.real TE.real n q=some (runsB n q.Leg q.Day):=fun q=>by rw[Ev ht];unfold kO;rw[hb];rfl
  simp only[ag,ba,aA,rb,ao,co,kH,iR,vn,Bool.true_and,htr]
  rw[rL (by omega)]
  simp only[ag,wb (show(plc n).length≤4194304 by omega),rl]
  by_cases h1:1≤s.Thing∧s.Thing≤9999
  ·rw[if_pos h1,decide_eq_true h1,Bool.true_and]
   by_cases h2:0≤s.At∧s.At≤100000
   ·rw[if_pos h2,decide_eq_true h2,Bool.true_and]
    have hal:(List.all [decide (s.Trip.Leg=0),decide (s.Trip.Day=0)] id)=decide (s.Trip.Leg=0∧s.Trip.Day=0):=by simp
    by_cases k1:s.Kind=1
    ·rw[if_pos k1,if_pos (c:=s.Kind=1∨s.Kind=4) (.inl k1),hal]
     by_cases hp:s.Place∈plc n
     ·rw[if_pos hp,decide_eq_true hp];rfl
     ·rw[if_neg hp,decide_eq_false hp];rfl
    ·rw[if_neg k1]
     by_cases k4:s.Kind=4
     ·rw[if_pos k4,if_pos (c:=s.Kind=1∨s.Kind=4) (.inr k4),hal]
      by_cases hp:s.Place∈plc n
      ·rw[if_pos hp,decide_eq_true hp];rfl
      ·rw[if_neg hp,decide_eq_false hp];rfl
     ·rw[if_neg k4,if_neg (c:=s.Kind=1∨s.Kind=4) (fun h=>h.elim k1 k4)]
      by_cases k3:s.Kind=3
      ·rw[if_pos k3,if_pos k3]
       by_cases hp:s.Place=str_k0
       ·rw[if_pos hp,decide_eq_true hp,Bool.true_and]
        cases hr:runsB n s.Trip.Leg s.Trip.Day with
        |false=>rfl
        |true=>
         obtain⟨r1,r2,r3,r4⟩:=iH (n:=n) (by omega) hr
         rw[ba,kR hn r1 r2 r3 r4];rfl
       ·rw[if_neg hp,decide_eq_false hp];rfl
      ·rw[if_neg k3,if_neg k3]
       by_cases k2:s.Kind=2
       ·rw[if_pos k2,if_pos k2]
        by_cases hp:s.Place=str_k0
        ·rw[if_pos hp,decide_eq_true hp,Bool.true_and]
         cases hr:runsB n s.Trip.Leg s.Trip.Day with
         |false=>rfl
         |true=>
          obtain⟨r1,r2,r3,r4⟩:=iH (n:=n) (by omega) hr
          rw[ba,vN hn r1 r2 r3 r4];rfl
        ·rw[if_neg hp,decide_eq_false hp];rfl
       ·rw[if_neg k2,if_neg k2]
   ·rw[if_neg h2,decide_eq_false h2];rfl
  ·rw[if_neg h1,decide_eq_false h1];rfl
structure ScOk (n:Network) (s:Scan):Prop where
 net:netB n=true
 thing:1≤s.Thing∧s.Thing≤9999
 time:0≤s.At∧s.At≤100000
 kind:s.Kind=1∨s.Kind=2∨s.Kind=3∨s.Kind=4
 at_:s.Kind=1∨s.Kind=4→s.Place∈plc n∧s.Trip.Leg=0∧s.Trip.Day=0
 load:s.Kind=3→s.Place=str_k0∧runsB n s.Trip.Leg s.Trip.Day=true∧s.At≤stN n s.Trip.Leg s.Trip.Day
 drop:s.Kind=2→s.Place=str_k0∧runsB n s.Trip.Leg s.Trip.Day=true∧enN n s.Trip.Leg s.Trip.Day≤s.At
theorem kQ {n:Network} {s:Scan} (h:scB n s=true):ScOk n s:=by
 unfold scB at h
 simp only[Bool.and_eq_true,decide_eq_true_eq] at h
 obtain⟨h1,h2,h3,h4⟩:=h
 by_cases k1:s.Kind=1∨s.Kind=4
 ·rw[if_pos k1] at h4
  simp only[Bool.and_eq_true,decide_eq_true_eq] at h4
  exact⟨h1,h2,h3,by omega,fun _=>h4,fun h=>by omega,fun h=>by omega⟩
 ·rw[if_neg k1] at h4
  by_cases k3:s.Kind=3
  ·rw[if_pos k3] at h4
   simp only[Bool.and_eq_true,decide_eq_true_eq] at h4
   exact⟨h1,h2,h3,by omega,fun h=>absurd h k1,fun _=>h4,fun h=>by omega⟩
  ·rw[if_neg k3] at h4
   by_cases k2:s.Kind=2
   ·rw[if_pos k2] at h4
    simp only[Bool.and_eq_true,decide_eq_true_eq] at h4
    exact⟨h1,h2,h3,by omega,fun h=>absurd h k1,fun h=>absurd h k3,fun _=>h4⟩
   ·rw[if_neg k2] at h4;cases h4
theorem d6 {n:Network} (ht:n.tot≤1048576) {s:Scan} (h:ScOk n s) (hk:s.Kind=3∨s.Kind=2):NetOk n∧runsB n s.Trip.Leg s.Trip.Day=true∧0≤s.Trip.Leg∧s.Trip.Leg<n.Legs.length∧0≤s.Trip.Day∧s.Trip.Day≤60:=by
 have hn:=nl ht h.net
 have hl:=hn.len
 have hr:runsB n s.Trip.Leg s.Trip.Day=true:=by
  rcases hk with hk|hk
  ·exact(h.load hk).2.1
  ·exact(h.drop hk).2.1
 obtain⟨r1,r2,r3,r4⟩:=iH (n:=n) (by omega) hr
 exact⟨hn,hr,r1,r2,r3,r4⟩
def plB (n:Network) (s:Scan):ByteArray:=if scB n s=true then(if s.Kind=3 then(gK n s.Trip.Leg).From else if s.Kind=2 then(gK n s.Trip.Leg).To else s.Place) else str_k0
def bhB (n:Network) (s:Scan):Spot:=if scB n s=true then(if s.Kind=3 then⟨(gK n s.Trip.Leg).To,enN n s.Trip.Leg s.Trip.Day⟩ else⟨plB n s,s.At⟩) else⟨.empty,0⟩
def bfB (n:Network) (s:Scan):Spot:=if scB n s=true then(if s.Kind=3∨s.Kind=2 then⟨(gK n s.Trip.Leg).From,stN n s.Trip.Leg s.Trip.Day⟩ else⟨s.Place,s.At⟩) else⟨.empty,0⟩
theorem pl_i {n:Network} (ht:n.tot≤1048576) (s:Scan):mB G.real TE.real n s=some (plB n s):=by
 unfold mB plB
 rw[B0 ht]
 cases hb:scB n s with
 |false=>simp
 |true=>
  have hk:=kQ hb
  simp only[ag,ba,co,ao,aZ,if_true]
  by_cases k3:s.Kind=3
  ·obtain⟨_,_,r1,r2,_⟩:=d6 ht hk (.inl k3)
   rw[if_pos k3,if_pos k3,aj r1,az (dW r1 r2)]
  ·rw[if_neg k3,if_neg k3]
   by_cases k2:s.Kind=2
   ·obtain⟨_,_,r1,r2,_⟩:=d6 ht hk (.inr k2)
    rw[if_pos k2,if_pos k2,aj r1,az (dW r1 r2)]
   ·rw[if_neg k2,if_neg k2]
theorem GG {n:Network} (ht:n.tot≤1048576) (s:Scan):bJ G.real TE.real n s=some (bhB n s):=by
 unfold bJ bhB
 rw[B0 ht,pl_i ht]
 cases hb:scB n s with
 |false=>simp
 |true=>
  have hk:=kQ hb
  simp only[ag,ba,co,ao,aZ,if_true]
  by_cases k3:s.Kind=3
  ·obtain⟨hn,_,r1,r2,r3,r4⟩:=d6 ht hk (.inl k3)
   rw[if_pos k3,if_pos k3,aj r1,az (dW r1 r2),vq hn r1 r2 r3 r4];rfl
  ·rw[if_neg k3,if_neg k3]
theorem Jp {n:Network} (ht:n.tot≤1048576) (s:Scan):bX G.real TE.real n s=some (bfB n s):=by
 unfold bX bfB
 rw[B0 ht]
 cases hb:scB n s with
 |false=>simp
 |true=>
  have hk:=kQ hb
  simp only[ag,ba,co,ao,aZ,if_true]
  by_cases k3:s.Kind=3
  ·obtain⟨hn,_,r1,r2,r3,r4⟩:=d6 ht hk (.inl k3)
   rw[if_pos k3,if_pos (.inl k3),aj r1,az (dW r1 r2),mc hn r1 r2 r3 r4];rfl
  ·rw[if_neg k3]
   by_cases k2:s.Kind=2
   ·obtain⟨hn,_,r1,r2,r3,r4⟩:=d6 ht hk (.inr k2)
    rw[if_pos k2,if_pos (.inr k2),aj r1,az (dW r1 r2),mc hn r1 r2 r3 r4];rfl
   ·rw[if_neg k2,if_neg (fun h=>h.elim k3 k2)]
theorem pl_s {n:Network} (ht:n.tot≤1048576) (s:Scan):mL G.real TE.real n s=some (plB n s):=by
 unfold mL plB
 rw[CC ht]
 cases hb:scB n s with
 |false=>simp
 |true=>
  have hk:=kQ hb
  simp only[ag,ba,co,ao,aZ,if_true]
  by_cases k3:s.Kind=3
  ·obtain⟨_,_,r1,r2,_⟩:=d6 ht hk (.inl k3)
   rw[if_pos k3,if_pos k3,aj r1,az (dW r1 r2)]
  ·rw[if_neg k3,if_neg k3]
   by_cases k2:s.Kind=2
   ·obtain⟨_,_,r1,r2,_⟩:=d6 ht hk (.inr k2)
    rw[if_pos k2,if_pos k2,aj r1,az (dW r1 r2)]
   ·rw[if_neg k2,if_neg k2]
theorem Fh {n:Network} (ht:n.tot≤1048576) (s:Scan):aV G.real TE.real n s=some (bhB n s):=by
 unfold aV bhB
 rw[CC ht,pl_s ht]
 cases hb:scB n s with
 |false=>simp
 |true=>
  have hk:=kQ hb
  simp only[ag,ba,co,ao,aZ,if_true]
  by_cases k3:s.Kind=3
  ·obtain⟨hn,_,r1,r2,r3,r4⟩:=d6 ht hk (.inl k3)
   rw[if_pos k3,if_pos k3,aj r1,az (dW r1 r2),vN hn r1 r2 r3 r4];rfl
  ·rw[if_neg k3,if_neg k3]
theorem Iy {n:Network} (ht:n.tot≤1048576) (s:Scan):fk G.real TE.real n s=some (bfB n s):=by
 unfold fk bfB
 rw[CC ht]
 cases hb:scB n s with
 |false=>simp
 |true=>
  have hk:=kQ hb
  simp only[ag,ba,co,ao,aZ,if_true]
  by_cases k3:s.Kind=3
  ·obtain⟨hn,_,r1,r2,r3,r4⟩:=d6 ht hk (.inl k3)
   rw[if_pos k3,if_pos (.inl k3),aj r1,az (dW r1 r2),kR hn r1 r2 r3 r4];rfl
  ·rw[if_neg k3]
   by_cases k2:s.Kind=2
   ·obtain⟨hn,_,r1,r2,r3,r4⟩:=d6 ht hk (.inr k2)
    rw[if_pos k2,if_pos (.inr k2),aj r1,az (dW r1 r2),kR hn r1 r2 r3 r4];rfl
   ·rw[if_neg k2,if_neg (fun h=>h.elim k3 k2)]
end Go.Vs
