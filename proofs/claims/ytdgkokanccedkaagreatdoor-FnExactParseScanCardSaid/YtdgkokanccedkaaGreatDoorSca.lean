/- Part of the proofs of this seat's laws: Sca. No condition. -/
import Derived.Test.YtdgkokanccedkaaGreatDoorPla
import Derived.Test.YtdgkokanccedkaaGreatDoorNet
import Derived.Test.YtdgkokanccedkaaGreatDoorLaa
import Derived.Test.YtdgkokanccedkaaGreatDoorLab
set_option linter.unusedVariables false
set_option linter.unusedSimpArgs false
set_option linter.unusedSectionVars false
namespace Go.Vs
open Go.IntWalk Go.Lib
theorem it {m:Nat} (h:m<9000000000000000000):I6 (m:Int):=⟨by omega,by omega⟩
theorem cW (a b:List UInt8):G.real.cat (st a) (st b)=st (a++b):=by rw[wJ,tQ]
theorem yj {v:Int} {k:Nat} (h:v=(k:Int)) (hk:k≤1000):dI G.real TE.real eO v=some (st (repeatL [48] k)):=by
 subst h
 unfold dI
 rw[af ⟨by omega,by omega,by decide⟩,Int.toNat_natCast]
 rfl
theorem zT {x:Nat} (h:x<100):gM G.real TE.real (x:Int) 2=some (st (two x)):=by
 unfold gM
 rw[wr (it (by omega)),ah,nY h,dP,ge,am]
 by_cases h1:x<10
 ·rw[if_pos h1,yj (k:=1) (show G.real.imax 0 (G.real.wrap .i64 (G.real.sub 2 (([UInt8.ofNat (48+x%10)]:List UInt8).length:Int)))=((1:Nat):Int) from rfl) (by decide),ah,am,af (by simp[repeatL]),cW]
  unfold two
  rw[Nat.div_eq_of_lt h1]
  rfl
 ·rw[if_neg h1,yj (k:=0) (show G.real.imax 0 (G.real.wrap .i64 (G.real.sub 2 ((two x).length:Int)))=((0:Nat):Int) from rfl) (by decide),ah,am,af (by simp[repeatL,two]),cW]
  rfl
theorem xl (m:Nat) (v:List UInt8) (h:1≤v.length):bP G.real TE.real 2 (m+2) (st v)=some (st (if v.length<2 then 48::v else v)):=by
 rw[bP,eK,dP,ge,am,al]
 by_cases h1:v.length<2
 ·rw[if_pos (by omega),if_pos h1,af (by rw[show eO=st [48] from rfl,am];simp;omega),show eO=st [48] from rfl,cW,bP,eK,dP,ge,am,al,if_neg (by simp;omega)]
  rfl
 ·rw[if_neg (by omega),if_neg h1]
theorem zN {x:Nat} (h:x<100):eS G.real TE.real (x:Int) 2=some (st (two x)):=by
 unfold eS
 rw[uY (it (by omega)),ah,nY h,show(1000000000:Nat)=999999998+2 from rfl]
 by_cases h1:x<10
 ·rw[if_pos h1,xl _ _ (by simp),ah,if_pos (by simp)]
  unfold two
  rw[Nat.div_eq_of_lt h1]
  rfl
 ·rw[if_neg h1,xl _ _ (by simp[two]),ah,if_neg (by simp[two])]
theorem uo {m:Nat} (h:m<1440):jB G.real TE.real (m:Int)=some (st (clk m)):=by
 unfold jB
 rw[nX,kF,show(m:Int).tdiv 60=((m/60:Nat):Int) from rfl,show(m:Int).tmod 60=((m%60:Nat):Int) from rfl,w64 (by omega) (by omega),zT (by omega),ah,show dV=st [58] from rfl,am,am,af (by simp[two]),zT (by omega),ah,cW,am,am,af (by simp[two]),cW]
 unfold clk
 simp
theorem ui {m:Nat} (h:m<1440):fL G.real TE.real (m:Int)=some (st (clk m)):=by
 unfold fL
 rw[nX,kF,show(m:Int).tdiv 60=((m/60:Nat):Int) from rfl,show(m:Int).tmod 60=((m%60:Nat):Int) from rfl,w64 (by omega) (by omega),zN (by omega),ah,show dV=st [58] from rfl,am,am,af (by simp[two]),zN (by omega),ah,cW,am,am,af (by simp[two]),cW]
 unfold clk
 simp
theorem cY {x:Int} (h:I6 x):(itoa x).length≤21:=itoa_length_le _ h.1 h.2
theorem qW {t:Int} (h:0≤t∧t≤100000):(tmT t).length≤27:=by
 have:=cY (x:=((t.toNat/1440:Nat):Int)) (it (by omega))
 have:=kI (t.toNat%1440)
 unfold tmT
 simp only[List.length_append,List.length_cons]
 omega
def ftB (t:Int):ByteArray:=if 0≤t∧t≤100000 then st (tmT t) else st []
theorem BL (t:Int):cr G.real TE.real t=some (ftB t):=by
 unfold cr ftB
 rw[bc,gW,al]
 by_cases h:0≤t∧t≤100000
 ·obtain⟨m,rfl⟩:=Int.eq_ofNat_of_zero_le h.1
  have h1:=cY (x:=((m/1440:Nat):Int)) (it (by omega))
  rw[if_pos h,if_pos h,nX,kF,show(m:Int).tdiv 1440=((m/1440:Nat):Int) from rfl,show(m:Int).tmod 1440=((m%1440:Nat):Int) from rfl,w64 (by omega) (by omega),wr (it (by omega)),ah,show ag=st [32] from rfl,am,am,af (by simp only[List.length_append,List.length_cons,List.length_nil];omega),uo (by omega),ah,cW,am,am,af (by simp only[List.length_append,List.length_cons,List.length_nil,kI];omega),cW]
  unfold tmT
  rw[Int.toNat_natCast]
  simp
 ·rw[if_neg h,if_neg h];rfl
theorem ft_s (t:Int):eu G.real TE.real t=some (ftB t):=by
 unfold eu ftB
 rw[bc,hO,al]
 by_cases h:0≤t∧t≤100000
 ·obtain⟨m,rfl⟩:=Int.eq_ofNat_of_zero_le h.1
  have h1:=cY (x:=((m/1440:Nat):Int)) (it (by omega))
  rw[if_pos h,if_pos h,nX,kF,show(m:Int).tdiv 1440=((m/1440:Nat):Int) from rfl,show(m:Int).tmod 1440=((m%1440:Nat):Int) from rfl,w64 (by omega) (by omega),uY (it (by omega)),ah,show ag=st [32] from rfl,am,am,af (by simp only[List.length_append,List.length_cons,List.length_nil];omega),ui (by omega),ah,cW,am,am,af (by simp only[List.length_append,List.length_cons,List.length_nil,kI];omega),cW]
  unfold tmT
  rw[Int.toNat_natCast]
  simp
 ·rw[if_neg h,if_neg h];rfl
def wrd (k:Int):List UInt8:=if k=1 then[104,101,114,101] else if k=3 then[108,111,97,100] else if k=2 then[100,114,111,112] else[100,111,110,101]
theorem zR (k:Int):gR G.real TE.real k=st (wrd k):=by
 unfold gR wrd
 simp only[dO,al]
 split
 ·rfl
 ·split
  ·rfl
  ·split<;>rfl
theorem zO {k:Int} (h:1≤k∧k≤4):d5 G.real TE.real k=some (st (wrd k)):=by
 have:k=1∨k=2∨k=3∨k=4:=by omega
 rcases this with rfl|rfl|rfl|rfl<;>rfl
theorem qB (k:Int):(wrd k).length=4:=by
 unfold wrd
 split
 ·rfl
 ·split
  ·rfl
  ·split<;>rfl
end Go.Vs
namespace Go.Vs
open Go.IntWalk
def scB (n:Network) (s:Scan):Bool:=
 netB n&&(decide (1≤s.Thing∧s.Thing≤9999)&&(decide (0≤s.At∧s.At≤100000)&&
 (if s.Kind=1∨s.Kind=4 then decide (s.Place∈plc n)&&decide (s.Trip.Leg=0∧s.Trip.Day=0)
  else if s.Kind=3 then decide (s.Place=str_k0)&&(runsB n s.Trip.Leg s.Trip.Day&&decide (s.At≤stN n s.Trip.Leg s.Trip.Day))
  else if s.Kind=2 then decide (s.Place=str_k0)&&(runsB n s.Trip.Leg s.Trip.Day&&decide (enN n s.Trip.Leg s.Trip.Day≤s.At)) else false)))
theorem xC {n:Network} (ht:n.tot≤1048576) (s:Scan):dk G.real TE.real n s=some (scB n s):=by
 unfold dk scB
 rw[zV ht]
 cases hb:netB n with
 |false=>rfl
 |true=>
  have hn:=fu ht hb
  have hl:=hn.len
  have pl:=mT n
  have htr:∀q:Trip,f7 G.real TE.real n q=some (runsB n q.Leg q.Day):=fun q=>by rw[A0 ht];unfold ik;rw[hb];rfl
  simp only[ah,cK,bc,gW,al,dO,qT,bL,wT,Bool.true_and,htr]
  rw[BS (by omega)]
  simp only[ah,zS (show(plc n).length≤4194304 by omega),pO]
  by_cases h1:1≤s.Thing∧s.Thing≤9999
  ·rw[if_pos h1,decide_eq_true h1,Bool.true_and]
   by_cases h2:0≤s.At∧s.At≤100000
   ·rw[if_pos h2,decide_eq_true h2,Bool.true_and]
    have hal:(List.all [decide (s.Trip.Leg=0),decide (s.Trip.Day=0)] id)=decide (s.Trip.Leg=0∧s.Trip.Day=0):=by simp
    by_cases k1:s.Kind=1
    ·rw[if_pos k1,if_pos (c:=s.Kind=1∨s.Kind=4) (.inl k1),hal]
     by_cases hp:s.Place∈plc n
     ·rw[if_pos hp,decide_eq_true hp];rfl
     ·rw[if_neg hp,decide_eq_false hp];rfl
    ·rw[if_neg k1]
     by_cases k4:s.Kind=4
     ·rw[if_pos k4,if_pos (c:=s.Kind=1∨s.Kind=4) (.inr k4),hal]
      by_cases hp:s.Place∈plc n
      ·rw[if_pos hp,decide_eq_true hp];rfl
      ·rw[if_neg hp,decide_eq_false hp];rfl
     ·rw[if_neg k4,if_neg (c:=s.Kind=1∨s.Kind=4) (fun h=>h.elim k1 k4)]
      by_cases k3:s.Kind=3
      ·rw[if_pos k3,if_pos k3]
       by_cases hp:s.Place=str_k0
       ·rw[if_pos hp,decide_eq_true hp,Bool.true_and]
        cases hr:runsB n s.Trip.Leg s.Trip.Day with
        |false=>rfl
        |true=>
         obtain⟨r1,r2,r3,r4⟩:=gk (n:=n) (by omega) hr
         rw[cK,mU hn r1 r2 r3 r4];rfl
       ·rw[if_neg hp,decide_eq_false hp];rfl
      ·rw[if_neg k3,if_neg k3]
       by_cases k2:s.Kind=2
       ·rw[if_pos k2,if_pos k2]
        by_cases hp:s.Place=str_k0
        ·rw[if_pos hp,decide_eq_true hp,Bool.true_and]
         cases hr:runsB n s.Trip.Leg s.Trip.Day with
         |false=>rfl
         |true=>
          obtain⟨r1,r2,r3,r4⟩:=gk (n:=n) (by omega) hr
          rw[cK,zH hn r1 r2 r3 r4];rfl
        ·rw[if_neg hp,decide_eq_false hp];rfl
       ·rw[if_neg k2,if_neg k2]
   ·rw[if_neg h2,decide_eq_false h2];rfl
  ·rw[if_neg h1,decide_eq_false h1];rfl
theorem BK {n:Network} (ht:n.tot≤1048576) (s:Scan):gT G.real TE.real n s=some (scB n s):=by
 unfold gT scB
 rw[zQ ht]
 cases hb:netB n with
 |false=>rfl
 |true=>
  have hn:=fu ht hb
  have hl:=hn.len
  have pl:=mT n
  have htr:∀q:Trip,ew G.real TE.real n q=some (runsB n q.Leg q.Day):=fun q=>by rw[sX ht];unfold ik;rw[hb];rfl
  simp only[ah,cK,bc,hO,al,dO,qT,bL,wT,Bool.true_and,htr]
  rw[xU (by omega)]
  simp only[ah,Bk (show(plc n).length≤4194304 by omega),pO]
  by_cases h1:1≤s.Thing∧s.Thing≤9999
  ·rw[if_pos h1,decide_eq_true h1,Bool.true_and]
   by_cases h2:0≤s.At∧s.At≤100000
   ·rw[if_pos h2,decide_eq_true h2,Bool.true_and]
    have hal:(List.all [decide (s.Trip.Leg=0),decide (s.Trip.Day=0)] id)=decide (s.Trip.Leg=0∧s.Trip.Day=0):=by simp
    by_cases k1:s.Kind=1
    ·rw[if_pos k1,if_pos (c:=s.Kind=1∨s.Kind=4) (.inl k1),hal]
     by_cases hp:s.Place∈plc n
     ·rw[if_pos hp,decide_eq_true hp];rfl
     ·rw[if_neg hp,decide_eq_false hp];rfl
    ·rw[if_neg k1]
     by_cases k4:s.Kind=4
     ·rw[if_pos k4,if_pos (c:=s.Kind=1∨s.Kind=4) (.inr k4),hal]
      by_cases hp:s.Place∈plc n
      ·rw[if_pos hp,decide_eq_true hp];rfl
      ·rw[if_neg hp,decide_eq_false hp];rfl
     ·rw[if_neg k4,if_neg (c:=s.Kind=1∨s.Kind=4) (fun h=>h.elim k1 k4)]
      by_cases k3:s.Kind=3
      ·rw[if_pos k3,if_pos k3]
       by_cases hp:s.Place=str_k0
       ·rw[if_pos hp,decide_eq_true hp,Bool.true_and]
        cases hr:runsB n s.Trip.Leg s.Trip.Day with
        |false=>rfl
        |true=>
         obtain⟨r1,r2,r3,r4⟩:=gk (n:=n) (by omega) hr
         rw[cK,rg hn r1 r2 r3 r4];rfl
       ·rw[if_neg hp,decide_eq_false hp];rfl
      ·rw[if_neg k3,if_neg k3]
       by_cases k2:s.Kind=2
       ·rw[if_pos k2,if_pos k2]
        by_cases hp:s.Place=str_k0
        ·rw[if_pos hp,decide_eq_true hp,Bool.true_and]
         cases hr:runsB n s.Trip.Leg s.Trip.Day with
         |false=>rfl
         |true=>
          obtain⟨r1,r2,r3,r4⟩:=gk (n:=n) (by omega) hr
          rw[cK,zJ hn r1 r2 r3 r4];rfl
        ·rw[if_neg hp,decide_eq_false hp];rfl
       ·rw[if_neg k2,if_neg k2]
   ·rw[if_neg h2,decide_eq_false h2];rfl
  ·rw[if_neg h1,decide_eq_false h1];rfl
structure ScOk (n:Network) (s:Scan):Prop where
 net:netB n=true
 thing:1≤s.Thing∧s.Thing≤9999
 time:0≤s.At∧s.At≤100000
 kind:s.Kind=1∨s.Kind=2∨s.Kind=3∨s.Kind=4
 at_:s.Kind=1∨s.Kind=4→s.Place∈plc n∧s.Trip.Leg=0∧s.Trip.Day=0
 load:s.Kind=3→s.Place=str_k0∧runsB n s.Trip.Leg s.Trip.Day=true∧s.At≤stN n s.Trip.Leg s.Trip.Day
 drop:s.Kind=2→s.Place=str_k0∧runsB n s.Trip.Leg s.Trip.Day=true∧enN n s.Trip.Leg s.Trip.Day≤s.At
theorem fv {n:Network} {s:Scan} (h:scB n s=true):ScOk n s:=by
 unfold scB at h
 simp only[Bool.and_eq_true,decide_eq_true_eq] at h
 obtain⟨h1,h2,h3,h4⟩:=h
 by_cases k1:s.Kind=1∨s.Kind=4
 ·rw[if_pos k1] at h4
  simp only[Bool.and_eq_true,decide_eq_true_eq] at h4
  exact⟨h1,h2,h3,by omega,fun _=>h4,fun h=>by omega,fun h=>by omega⟩
 ·rw[if_neg k1] at h4
  by_cases k3:s.Kind=3
  ·rw[if_pos k3] at h4
   simp only[Bool.and_eq_true,decide_eq_true_eq] at h4
   exact⟨h1,h2,h3,by omega,fun h=>absurd h k1,fun _=>h4,fun h=>by omega⟩
  ·rw[if_neg k3] at h4
   by_cases k2:s.Kind=2
   ·rw[if_pos k2] at h4
    simp only[Bool.and_eq_true,decide_eq_true_eq] at h4
    exact⟨h1,h2,h3,by omega,fun h=>absurd h k1,fun h=>absurd h k3,fun _=>h4⟩
   ·rw[if_neg k2] at h4;cases h4
theorem gu {n:Network} (ht:n.tot≤1048576) {s:Scan} (h:ScOk n s) (hk:s.Kind=3∨s.Kind=2):NetOk n∧runsB n s.Trip.Leg s.Trip.Day=true∧0≤s.Trip.Leg∧s.Trip.Leg<n.Legs.length∧0≤s.Trip.Day∧s.Trip.Day≤60:=by
 have hn:=fu ht h.net
 have hl:=hn.len
 have hr:runsB n s.Trip.Leg s.Trip.Day=true:=by
  rcases hk with hk|hk
  ·exact(h.load hk).2.1
  ·exact(h.drop hk).2.1
 obtain⟨r1,r2,r3,r4⟩:=gk (n:=n) (by omega) hr
 exact⟨hn,hr,r1,r2,r3,r4⟩
def plB (n:Network) (s:Scan):ByteArray:=if scB n s=true then(if s.Kind=3 then(fA n s.Trip.Leg).From else if s.Kind=2 then(fA n s.Trip.Leg).To else s.Place) else str_k0
def bhB (n:Network) (s:Scan):Spot:=if scB n s=true then(if s.Kind=3 then⟨(fA n s.Trip.Leg).To,enN n s.Trip.Leg s.Trip.Day⟩ else⟨plB n s,s.At⟩) else⟨.empty,0⟩
def bfB (n:Network) (s:Scan):Spot:=if scB n s=true then(if s.Kind=3∨s.Kind=2 then⟨(fA n s.Trip.Leg).From,stN n s.Trip.Leg s.Trip.Day⟩ else⟨s.Place,s.At⟩) else⟨.empty,0⟩
theorem AT {n:Network} (ht:n.tot≤1048576) (s:Scan):dF G.real TE.real n s=some (plB n s):=by
 unfold dF plB
 rw[xC ht]
 cases hb:scB n s with
 |false=>simp
 |true=>
  have hk:=fv hb
  simp only[ah,cK,dO,al,d9,if_true]
  by_cases k3:s.Kind=3
  ·obtain⟨_,_,r1,r2,_⟩:=gu ht hk (.inl k3)
   rw[if_pos k3,if_pos k3,af r1,ay (fo r1 r2)]
  ·rw[if_neg k3,if_neg k3]
   by_cases k2:s.Kind=2
   ·obtain⟨_,_,r1,r2,_⟩:=gu ht hk (.inr k2)
    rw[if_pos k2,if_pos k2,af r1,ay (fo r1 r2)]
   ·rw[if_neg k2,if_neg k2]
theorem bh_i {n:Network} (ht:n.tot≤1048576) (s:Scan):dC G.real TE.real n s=some (bhB n s):=by
 unfold dC bhB
 rw[xC ht,AT ht]
 cases hb:scB n s with
 |false=>simp
 |true=>
  have hk:=fv hb
  simp only[ah,cK,dO,al,d9,if_true]
  by_cases k3:s.Kind=3
  ·obtain⟨hn,_,r1,r2,r3,r4⟩:=gu ht hk (.inl k3)
   rw[if_pos k3,if_pos k3,af r1,ay (fo r1 r2),zH hn r1 r2 r3 r4];rfl
  ·rw[if_neg k3,if_neg k3]
theorem bf_i {n:Network} (ht:n.tot≤1048576) (s:Scan):dG G.real TE.real n s=some (bfB n s):=by
 unfold dG bfB
 rw[xC ht]
 cases hb:scB n s with
 |false=>simp
 |true=>
  have hk:=fv hb
  simp only[ah,cK,dO,al,d9,if_true]
  by_cases k3:s.Kind=3
  ·obtain⟨hn,_,r1,r2,r3,r4⟩:=gu ht hk (.inl k3)
   rw[if_pos k3,if_pos (.inl k3),af r1,ay (fo r1 r2),mU hn r1 r2 r3 r4];rfl
  ·rw[if_neg k3]
   by_cases k2:s.Kind=2
   ·obtain⟨hn,_,r1,r2,r3,r4⟩:=gu ht hk (.inr k2)
    rw[if_pos k2,if_pos (.inr k2),af r1,ay (fo r1 r2),mU hn r1 r2 r3 r4];rfl
   ·rw[if_neg k2,if_neg (fun h=>h.elim k3 k2)]
end Go.Vs
namespace Go.Vs
open Go.IntWalk Go.Lib
theorem lC {n:Network} (hn:NetOk n) {p:ByteArray} (h:p∈plc n):p.size=3∧Abc p:=by
 obtain⟨x,hx,h|h⟩:=(k9 n p).1 h
 ·subst h;exact⟨(hn.legs x hx).from3,(hn.legs x hx).abc.1⟩
 ·subst h;exact⟨(hn.legs x hx).to3,(hn.legs x hx).abc.2⟩
def whr (s:Scan):List UInt8:=if s.Kind=3∨s.Kind=2 then itoa s.Trip.Leg++47::itoa s.Trip.Day else s.Place.data.toList
def scT (s:Scan):List UInt8:=tmT s.At++32::(itoa s.Thing++32::(wrd s.Kind++32::whr s))
def fsB (n:Network) (s:Scan):ByteArray:=if scB n s=true then st (scT s) else st []
theorem je {n:Network} (ht:n.tot≤1048576) {s:Scan} (h:ScOk n s) (hk:s.Kind=3∨s.Kind=2):0≤s.Trip.Leg∧s.Trip.Leg≤20∧0≤s.Trip.Day∧s.Trip.Day≤60:=by
 obtain⟨hn,_,r1,r2,r3,r4⟩:=gu ht h hk
 have:=hn.len
 exact⟨r1,by omega,r3,r4⟩
theorem zn {n:Network} (ht:n.tot≤1048576) (s:Scan):ci G.real TE.real n s=some (fsB n s):=by
 unfold ci fsB
 rw[xC ht,ah]
 cases hb:scB n s with
 |false=>rw[mM,if_neg (by simp)];rfl
 |true=>
  have hk:=fv hb
  have h1:=qW hk.time
  have h2:=cY (x:=s.Thing) ⟨by have:=hk.thing;omega,by have:=hk.thing;omega⟩
  have h3:=qB s.Kind
  rw[cK,if_pos rfl,dO,dO,al,al,BL,wr (x:=s.Thing) ⟨by have:=hk.thing;omega,by have:=hk.thing;omega⟩,zO (by have:=hk.kind;omega)]
  unfold ftB
  rw[if_pos hk.time,show ag=st [32] from rfl,show bk=st [47] from rfl]
  by_cases k:s.Kind=3∨s.Kind=2
  ·have hl:=je ht hk k
   have h4:=cY (x:=s.Trip.Leg) ⟨by omega,by omega⟩
   have h5:=cY (x:=s.Trip.Day) ⟨by omega,by omega⟩
   have w:whr s=itoa s.Trip.Leg++47::itoa s.Trip.Day:=by unfold whr;rw[if_pos k]
   rw[wr (x:=s.Trip.Leg) ⟨by omega,by omega⟩,wr (x:=s.Trip.Day) ⟨by omega,by omega⟩]
   simp only[ah,cW,am]
   have pick:∀(a b:Option ByteArray),(s.Kind=3∨s.Kind=2)→(if s.Kind=3 then a else if s.Kind=2 then a else b)=a:=fun a b k=>by
    rcases k with k|k
    ·rw[if_pos k]
    ·rw[if_neg (by omega),if_pos k]
   rw[pick _ _ k]
   rw[af (by simp only[List.length_append,List.length_cons,List.length_nil];omega),af (by simp only[List.length_append,List.length_cons,List.length_nil];omega),af (by simp only[List.length_append,List.length_cons,List.length_nil];omega),af (by simp only[List.length_append,List.length_cons,List.length_nil];omega),af (by simp only[List.length_append,List.length_cons,List.length_nil];omega),af (by simp only[List.length_append,List.length_cons,List.length_nil];omega),af (by simp only[List.length_append,List.length_cons,List.length_nil];omega),af (by simp only[List.length_append,List.length_cons,List.length_nil];omega)]
   unfold scT
   rw[w]
   simp
  ·have hp:=hk.at_ (by have:=hk.kind;omega)
   have h4:=(lC (fu ht hk.net) hp.1).1
   have w:whr s=s.Place.data.toList:=by unfold whr;rw[if_neg k]
   have hl:s.Place.data.toList.length=s.Place.size:=Array.length_toList
   rw[if_neg (fun h=>k (.inl h)),if_neg (fun h=>k (.inr h))]
   unfold scT
   rw[w,←mV s.Place] at*
   generalize s.Place.data.toList=p at*
   rw[am] at h4
   simp only[ah,cW,am]
   rw[af (by simp only[List.length_append,List.length_cons,List.length_nil];omega),af (by simp only[List.length_append,List.length_cons,List.length_nil];omega),af (by simp only[List.length_append,List.length_cons,List.length_nil];omega),af (by simp only[List.length_append,List.length_cons,List.length_nil];omega),af (by simp only[List.length_append,List.length_cons,List.length_nil];omega),af (by simp only[List.length_append,List.length_cons,List.length_nil];omega)]
   simp
   rfl
theorem BC {n:Network} (ht:n.tot≤1048576) (s:Scan):ce G.real TE.real n s=some (fsB n s):=by
 unfold ce fsB
 rw[BK ht,ah]
 cases hb:scB n s with
 |false=>rw[mM,if_neg (by simp)];rfl
 |true=>
  have hk:=fv hb
  have h1:=qW hk.time
  have h2:=cY (x:=s.Thing) ⟨by have:=hk.thing;omega,by have:=hk.thing;omega⟩
  have h3:=qB s.Kind
  rw[cK,if_pos rfl,ft_s,uY (x:=s.Thing) ⟨by have:=hk.thing;omega,by have:=hk.thing;omega⟩,zR]
  unfold ftB
  rw[if_pos hk.time,show ag=st [32] from rfl,show bk=st [47] from rfl,bL]
  by_cases k:s.Kind=3∨s.Kind=2
  ·have hl:=je ht hk k
   have h4:=cY (x:=s.Trip.Leg) ⟨by omega,by omega⟩
   have h5:=cY (x:=s.Trip.Day) ⟨by omega,by omega⟩
   have w:whr s=itoa s.Trip.Leg++47::itoa s.Trip.Day:=by unfold whr;rw[if_pos k]
   have hpl:s.Place=str_k0:=by
    rcases k with k|k
    ·exact(hk.load k).1
    ·exact(hk.drop k).1
   rw[decide_eq_true hpl,uY (x:=s.Trip.Leg) ⟨by omega,by omega⟩,uY (x:=s.Trip.Day) ⟨by omega,by omega⟩]
   simp only[ah,bc,cW,am,cK]
   rw[af (by simp only[List.length_append,List.length_cons,List.length_nil];omega),af (by simp only[List.length_append,List.length_cons,List.length_nil];omega),af (by simp only[List.length_append,List.length_cons,List.length_nil];omega),af (by simp only[List.length_append,List.length_cons,List.length_nil];omega),af (by simp only[List.length_append,List.length_cons,List.length_nil];omega),af (by simp only[List.length_append,List.length_cons,List.length_nil];omega),af (by simp only[List.length_append,List.length_cons,List.length_nil];omega),af (by simp only[List.length_append,List.length_cons,List.length_nil];omega)]
   unfold scT
   rw[w]
   simp
  ·have hp:=hk.at_ (by have:=hk.kind;omega)
   have h4:=(lC (fu ht hk.net) hp.1).1
   have w:whr s=s.Place.data.toList:=by unfold whr;rw[if_neg k]
   have hl:s.Place.data.toList.length=s.Place.size:=Array.length_toList
   rw[decide_eq_false (fun h=>by rw[h] at h4;cases h4)]
   unfold scT
   rw[w,←mV s.Place] at*
   generalize s.Place.data.toList=p at*
   rw[am] at h4
   simp only[ah,bc,cW,am,mM]
   rw[af (by simp only[List.length_append,List.length_cons,List.length_nil];omega),af (by simp only[List.length_append,List.length_cons,List.length_nil];omega),af (by simp only[List.length_append,List.length_cons,List.length_nil];omega),af (by simp only[List.length_append,List.length_cons,List.length_nil];omega),af (by simp only[List.length_append,List.length_cons,List.length_nil];omega),af (by simp only[List.length_append,List.length_cons,List.length_nil];omega)]
   simp
   rfl
end Go.Vs
