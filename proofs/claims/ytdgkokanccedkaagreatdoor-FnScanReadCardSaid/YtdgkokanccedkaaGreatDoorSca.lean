/- Part of the proofs of this seat's laws: Sca. No condition. -/
import Derived.Test.YtdgkokanccedkaaGreatDoorPla
import Derived.Test.YtdgkokanccedkaaGreatDoorNet
import Derived.Test.YtdgkokanccedkaaGreatDoorLaa
import Derived.Test.YtdgkokanccedkaaGreatDoorLab
set_option linter.unusedVariables false
set_option linter.unusedSimpArgs false
set_option linter.unusedSectionVars false
namespace Go.Vs
open Go.IntWalk Go.Lib
theorem iv {m:Nat} (h:m<9000000000000000000):I6 (m:Int):=⟨by omega,by omega⟩
theorem cU (a b:List UInt8):G.real.cat (st a) (st b)=st (a++b):=by rw[yw,tD]
theorem yl {v:Int} {k:Nat} (h:v=(k:Int)) (hk:k≤1000):dI G.real TE.real eL v=some (st (repeatL [48] k)):=by
 subst h
 unfold dI
 rw[af ⟨by omega,by omega,by decide⟩,Int.toNat_natCast]
 rfl
theorem zG {x:Nat} (h:x<100):gL G.real TE.real (x:Int) 2=some (st (two x)):=by
 unfold gL
 rw[wU (iv (by omega)),ag,nA h,dP,gb,am]
 by_cases h1:x<10
 ·rw[if_pos h1,yl (k:=1) (show G.real.imax 0 (G.real.wrap .i64 (G.real.sub 2 (([UInt8.ofNat (48+x%10)]:List UInt8).length:Int)))=((1:Nat):Int) from rfl) (by decide),ag,am,af (by simp[repeatL]),cU]
  unfold two
  rw[Nat.div_eq_of_lt h1]
  rfl
 ·rw[if_neg h1,yl (k:=0) (show G.real.imax 0 (G.real.wrap .i64 (G.real.sub 2 ((two x).length:Int)))=((0:Nat):Int) from rfl) (by decide),ag,am,af (by simp[repeatL,two]),cU]
  rfl
theorem w9 (m:Nat) (v:List UInt8) (h:1≤v.length):bN G.real TE.real 2 (m+2) (st v)=some (st (if v.length<2 then 48::v else v)):=by
 rw[bN,eM,dP,gb,am,al]
 by_cases h1:v.length<2
 ·rw[if_pos (by omega),if_pos h1,af (by rw[show eL=st [48] from rfl,am];simp;omega),show eL=st [48] from rfl,cU,bN,eM,dP,gb,am,al,if_neg (by simp;omega)]
  rfl
 ·rw[if_neg (by omega),if_neg h1]
theorem zW {x:Nat} (h:x<100):eQ G.real TE.real (x:Int) 2=some (st (two x)):=by
 unfold eQ
 rw[vb (iv (by omega)),ag,nA h,show(1000000000:Nat)=999999998+2 from rfl]
 by_cases h1:x<10
 ·rw[if_pos h1,w9 _ _ (by simp),ag,if_pos (by simp)]
  unfold two
  rw[Nat.div_eq_of_lt h1]
  rfl
 ·rw[if_neg h1,w9 _ _ (by simp[two]),ag,if_neg (by simp[two])]
theorem uv {m:Nat} (h:m<1440):jn G.real TE.real (m:Int)=some (st (clk m)):=by
 unfold jn
 rw[oD,lj,show(m:Int).tdiv 60=((m/60:Nat):Int) from rfl,show(m:Int).tmod 60=((m%60:Nat):Int) from rfl,w64 (by omega) (by omega),zG (by omega),ag,show dT=st [58] from rfl,am,am,af (by simp[two]),zG (by omega),ag,cU,am,am,af (by simp[two]),cU]
 unfold clk
 simp
theorem uM {m:Nat} (h:m<1440):fK G.real TE.real (m:Int)=some (st (clk m)):=by
 unfold fK
 rw[oD,lj,show(m:Int).tdiv 60=((m/60:Nat):Int) from rfl,show(m:Int).tmod 60=((m%60:Nat):Int) from rfl,w64 (by omega) (by omega),zW (by omega),ag,show dT=st [58] from rfl,am,am,af (by simp[two]),zW (by omega),ag,cU,am,am,af (by simp[two]),cU]
 unfold clk
 simp
theorem cY {x:Int} (h:I6 x):(itoa x).length≤21:=itoa_length_le _ h.1 h.2
theorem qV {t:Int} (h:0≤t∧t≤100000):(tmT t).length≤27:=by
 have:=cY (x:=((t.toNat/1440:Nat):Int)) (iv (by omega))
 have:=kY (t.toNat%1440)
 unfold tmT
 simp only[List.length_append,List.length_cons]
 omega
def ftB (t:Int):ByteArray:=if 0≤t∧t≤100000 then st (tmT t) else st []
theorem Bm (t:Int):cm G.real TE.real t=some (ftB t):=by
 unfold cm ftB
 rw[bc,gI,al]
 by_cases h:0≤t∧t≤100000
 ·obtain⟨m,rfl⟩:=Int.eq_ofNat_of_zero_le h.1
  have h1:=cY (x:=((m/1440:Nat):Int)) (iv (by omega))
  rw[if_pos h,if_pos h,oD,lj,show(m:Int).tdiv 1440=((m/1440:Nat):Int) from rfl,show(m:Int).tmod 1440=((m%1440:Nat):Int) from rfl,w64 (by omega) (by omega),wU (iv (by omega)),ag,show ah=st [32] from rfl,am,am,af (by simp only[List.length_append,List.length_cons,List.length_nil];omega),uv (by omega),ag,cU,am,am,af (by simp only[List.length_append,List.length_cons,List.length_nil,kY];omega),cU]
  unfold tmT
  rw[Int.toNat_natCast]
  simp
 ·rw[if_neg h,if_neg h];rfl
theorem ft_s (t:Int):eB G.real TE.real t=some (ftB t):=by
 unfold eB ftB
 rw[bc,hO,al]
 by_cases h:0≤t∧t≤100000
 ·obtain⟨m,rfl⟩:=Int.eq_ofNat_of_zero_le h.1
  have h1:=cY (x:=((m/1440:Nat):Int)) (iv (by omega))
  rw[if_pos h,if_pos h,oD,lj,show(m:Int).tdiv 1440=((m/1440:Nat):Int) from rfl,show(m:Int).tmod 1440=((m%1440:Nat):Int) from rfl,w64 (by omega) (by omega),vb (iv (by omega)),ag,show ah=st [32] from rfl,am,am,af (by simp only[List.length_append,List.length_cons,List.length_nil];omega),uM (by omega),ag,cU,am,am,af (by simp only[List.length_append,List.length_cons,List.length_nil,kY];omega),cU]
  unfold tmT
  rw[Int.toNat_natCast]
  simp
 ·rw[if_neg h,if_neg h];rfl
def wrd (k:Int):List UInt8:=if k=1 then[104,101,114,101] else if k=3 then[108,111,97,100] else if k=2 then[100,114,111,112] else[100,111,110,101]
theorem zR (k:Int):gH G.real TE.real k=st (wrd k):=by
 unfold gH wrd
 simp only[dN,al]
 split
 ·rfl
 ·split
  ·rfl
  ·split<;>rfl
theorem zV {k:Int} (h:1≤k∧k≤4):d6 G.real TE.real k=some (st (wrd k)):=by
 have:k=1∨k=2∨k=3∨k=4:=by omega
 rcases this with rfl|rfl|rfl|rfl<;>rfl
theorem qo (k:Int):(wrd k).length=4:=by
 unfold wrd
 split
 ·rfl
 ·split
  ·rfl
  ·split<;>rfl
end Go.Vs
namespace Go.Vs
open Go.IntWalk
def scB (n:Network) (s:Scan):Bool:=
 netB n&&(decide (1≤s.Thing∧s.Thing≤9999)&&(decide (0≤s.At∧s.At≤100000)&&
 (if s.Kind=1∨s.Kind=4 then decide (s.Place∈plc n)&&decide (s.Trip.Leg=0∧s.Trip.Day=0)
  else if s.Kind=3 then decide (s.Place=str_k0)&&(runsB n s.Trip.Leg s.Trip.Day&&decide (s.At≤stN n s.Trip.Leg s.Trip.Day))
  else if s.Kind=2 then decide (s.Place=str_k0)&&(runsB n s.Trip.Leg s.Trip.Day&&decide (enN n s.Trip.Leg s.Trip.Day≤s.At)) else false)))
theorem yE {n:Network} (ht:n.tot≤1048576) (s:Scan):dh G.real TE.real n s=some (scB n s):=by
 unfold dh scB
 rw[zT ht]
 cases hb:netB n with
 |false=>rfl
 |true=>
  have hn:=fr ht hb
  have hl:=hn.len
  have pl:=nf n
  have htr:∀q:Trip,f6 G.real TE.real n q=some (runsB n q.Leg q.Day):=fun q=>by rw[AG ht];unfold ik;rw[hb];rfl
  simp only[ag,cK,bc,gI,al,dN,rj,bL,wt,Bool.true_and,htr]
  rw[Bx (by omega)]
  simp only[ag,zI (show(plc n).length≤4194304 by omega),pQ]
  by_cases h1:1≤s.Thing∧s.Thing≤9999
  ·rw[if_pos h1,decide_eq_true h1,Bool.true_and]
   by_cases h2:0≤s.At∧s.At≤100000
   ·rw[if_pos h2,decide_eq_true h2,Bool.true_and]
    have hal:(List.all [decide (s.Trip.Leg=0),decide (s.Trip.Day=0)] id)=decide (s.Trip.Leg=0∧s.Trip.Day=0):=by simp
    by_cases k1:s.Kind=1
    ·rw[if_pos k1,if_pos (c:=s.Kind=1∨s.Kind=4) (.inl k1),hal]
     by_cases hp:s.Place∈plc n
     ·rw[if_pos hp,decide_eq_true hp];rfl
     ·rw[if_neg hp,decide_eq_false hp];rfl
    ·rw[if_neg k1]
     by_cases k4:s.Kind=4
     ·rw[if_pos k4,if_pos (c:=s.Kind=1∨s.Kind=4) (.inr k4),hal]
      by_cases hp:s.Place∈plc n
      ·rw[if_pos hp,decide_eq_true hp];rfl
      ·rw[if_neg hp,decide_eq_false hp];rfl
     ·rw[if_neg k4,if_neg (c:=s.Kind=1∨s.Kind=4) (fun h=>h.elim k1 k4)]
      by_cases k3:s.Kind=3
      ·rw[if_pos k3,if_pos k3]
       by_cases hp:s.Place=str_k0
       ·rw[if_pos hp,decide_eq_true hp,Bool.true_and]
        cases hr:runsB n s.Trip.Leg s.Trip.Day with
        |false=>rfl
        |true=>
         obtain⟨r1,r2,r3,r4⟩:=gn (n:=n) (by omega) hr
         rw[cK,mW hn r1 r2 r3 r4];rfl
       ·rw[if_neg hp,decide_eq_false hp];rfl
      ·rw[if_neg k3,if_neg k3]
       by_cases k2:s.Kind=2
       ·rw[if_pos k2,if_pos k2]
        by_cases hp:s.Place=str_k0
        ·rw[if_pos hp,decide_eq_true hp,Bool.true_and]
         cases hr:runsB n s.Trip.Leg s.Trip.Day with
         |false=>rfl
         |true=>
          obtain⟨r1,r2,r3,r4⟩:=gn (n:=n) (by omega) hr
          rw[cK,zU hn r1 r2 r3 r4];rfl
        ·rw[if_neg hp,decide_eq_false hp];rfl
       ·rw[if_neg k2,if_neg k2]
   ·rw[if_neg h2,decide_eq_false h2];rfl
  ·rw[if_neg h1,decide_eq_false h1];rfl
theorem BQ {n:Network} (ht:n.tot≤1048576) (s:Scan):gR G.real TE.real n s=some (scB n s):=by
 unfold gR scB
 rw[zZ ht]
 cases hb:netB n with
 |false=>rfl
 |true=>
  have hn:=fr ht hb
  have hl:=hn.len
  have pl:=nf n
  have htr:∀q:Trip,em G.real TE.real n q=some (runsB n q.Leg q.Day):=fun q=>by rw[s0 ht];unfold ik;rw[hb];rfl
  simp only[ag,cK,bc,hO,al,dN,rj,bL,wt,Bool.true_and,htr]
  rw[ye (by omega)]
  simp only[ag,Be (show(plc n).length≤4194304 by omega),pQ]
  by_cases h1:1≤s.Thing∧s.Thing≤9999
  ·rw[if_pos h1,decide_eq_true h1,Bool.true_and]
   by_cases h2:0≤s.At∧s.At≤100000
   ·rw[if_pos h2,decide_eq_true h2,Bool.true_and]
    have hal:(List.all [decide (s.Trip.Leg=0),decide (s.Trip.Day=0)] id)=decide (s.Trip.Leg=0∧s.Trip.Day=0):=by simp
    by_cases k1:s.Kind=1
    ·rw[if_pos k1,if_pos (c:=s.Kind=1∨s.Kind=4) (.inl k1),hal]
     by_cases hp:s.Place∈plc n
     ·rw[if_pos hp,decide_eq_true hp];rfl
     ·rw[if_neg hp,decide_eq_false hp];rfl
    ·rw[if_neg k1]
     by_cases k4:s.Kind=4
     ·rw[if_pos k4,if_pos (c:=s.Kind=1∨s.Kind=4) (.inr k4),hal]
      by_cases hp:s.Place∈plc n
      ·rw[if_pos hp,decide_eq_true hp];rfl
      ·rw[if_neg hp,decide_eq_false hp];rfl
     ·rw[if_neg k4,if_neg (c:=s.Kind=1∨s.Kind=4) (fun h=>h.elim k1 k4)]
      by_cases k3:s.Kind=3
      ·rw[if_pos k3,if_pos k3]
       by_cases hp:s.Place=str_k0
       ·rw[if_pos hp,decide_eq_true hp,Bool.true_and]
        cases hr:runsB n s.Trip.Leg s.Trip.Day with
        |false=>rfl
        |true=>
         obtain⟨r1,r2,r3,r4⟩:=gn (n:=n) (by omega) hr
         rw[cK,qM hn r1 r2 r3 r4];rfl
       ·rw[if_neg hp,decide_eq_false hp];rfl
      ·rw[if_neg k3,if_neg k3]
       by_cases k2:s.Kind=2
       ·rw[if_pos k2,if_pos k2]
        by_cases hp:s.Place=str_k0
        ·rw[if_pos hp,decide_eq_true hp,Bool.true_and]
         cases hr:runsB n s.Trip.Leg s.Trip.Day with
         |false=>rfl
         |true=>
          obtain⟨r1,r2,r3,r4⟩:=gn (n:=n) (by omega) hr
          rw[cK,zM hn r1 r2 r3 r4];rfl
        ·rw[if_neg hp,decide_eq_false hp];rfl
       ·rw[if_neg k2,if_neg k2]
   ·rw[if_neg h2,decide_eq_false h2];rfl
  ·rw[if_neg h1,decide_eq_false h1];rfl
structure ScOk (n:Network) (s:Scan):Prop where
 net:netB n=true
 thing:1≤s.Thing∧s.Thing≤9999
 time:0≤s.At∧s.At≤100000
 kind:s.Kind=1∨s.Kind=2∨s.Kind=3∨s.Kind=4
 at_:s.Kind=1∨s.Kind=4→s.Place∈plc n∧s.Trip.Leg=0∧s.Trip.Day=0
 load:s.Kind=3→s.Place=str_k0∧runsB n s.Trip.Leg s.Trip.Day=true∧s.At≤stN n s.Trip.Leg s.Trip.Day
 drop:s.Kind=2→s.Place=str_k0∧runsB n s.Trip.Leg s.Trip.Day=true∧enN n s.Trip.Leg s.Trip.Day≤s.At
theorem fv {n:Network} {s:Scan} (h:scB n s=true):ScOk n s:=by
 unfold scB at h
 simp only[Bool.and_eq_true,decide_eq_true_eq] at h
 obtain⟨h1,h2,h3,h4⟩:=h
 by_cases k1:s.Kind=1∨s.Kind=4
 ·rw[if_pos k1] at h4
  simp only[Bool.and_eq_true,decide_eq_true_eq] at h4
  exact⟨h1,h2,h3,by omega,fun _=>h4,fun h=>by omega,fun h=>by omega⟩
 ·rw[if_neg k1] at h4
  by_cases k3:s.Kind=3
  ·rw[if_pos k3] at h4
   simp only[Bool.and_eq_true,decide_eq_true_eq] at h4
   exact⟨h1,h2,h3,by omega,fun h=>absurd h k1,fun _=>h4,fun h=>by omega⟩
  ·rw[if_neg k3] at h4
   by_cases k2:s.Kind=2
   ·rw[if_pos k2] at h4
    simp only[Bool.and_eq_true,decide_eq_true_eq] at h4
    exact⟨h1,h2,h3,by omega,fun h=>absurd h k1,fun h=>absurd h k3,fun _=>h4⟩
   ·rw[if_neg k2] at h4;cases h4
theorem gp {n:Network} (ht:n.tot≤1048576) {s:Scan} (h:ScOk n s) (hk:s.Kind=3∨s.Kind=2):NetOk n∧runsB n s.Trip.Leg s.Trip.Day=true∧0≤s.Trip.Leg∧s.Trip.Leg<n.Legs.length∧0≤s.Trip.Day∧s.Trip.Day≤60:=by
 have hn:=fr ht h.net
 have hl:=hn.len
 have hr:runsB n s.Trip.Leg s.Trip.Day=true:=by
  rcases hk with hk|hk
  ·exact(h.load hk).2.1
  ·exact(h.drop hk).2.1
 obtain⟨r1,r2,r3,r4⟩:=gn (n:=n) (by omega) hr
 exact⟨hn,hr,r1,r2,r3,r4⟩
def plB (n:Network) (s:Scan):ByteArray:=if scB n s=true then(if s.Kind=3 then(fy n s.Trip.Leg).From else if s.Kind=2 then(fy n s.Trip.Leg).To else s.Place) else str_k0
def bhB (n:Network) (s:Scan):Spot:=if scB n s=true then(if s.Kind=3 then⟨(fy n s.Trip.Leg).To,enN n s.Trip.Leg s.Trip.Day⟩ else⟨plB n s,s.At⟩) else⟨.empty,0⟩
def bfB (n:Network) (s:Scan):Spot:=if scB n s=true then(if s.Kind=3∨s.Kind=2 then⟨(fy n s.Trip.Leg).From,stN n s.Trip.Leg s.Trip.Day⟩ else⟨s.Place,s.At⟩) else⟨.empty,0⟩
theorem A7 {n:Network} (ht:n.tot≤1048576) (s:Scan):du G.real TE.real n s=some (plB n s):=by
 unfold du plB
 rw[yE ht]
 cases hb:scB n s with
 |false=>simp
 |true=>
  have hk:=fv hb
  simp only[ag,cK,dN,al,eb,if_true]
  by_cases k3:s.Kind=3
  ·obtain⟨_,_,r1,r2,_⟩:=gp ht hk (.inl k3)
   rw[if_pos k3,if_pos k3,af r1,ay (fu r1 r2)]
  ·rw[if_neg k3,if_neg k3]
   by_cases k2:s.Kind=2
   ·obtain⟨_,_,r1,r2,_⟩:=gp ht hk (.inr k2)
    rw[if_pos k2,if_pos k2,af r1,ay (fu r1 r2)]
   ·rw[if_neg k2,if_neg k2]
theorem bh_i {n:Network} (ht:n.tot≤1048576) (s:Scan):dv G.real TE.real n s=some (bhB n s):=by
 unfold dv bhB
 rw[yE ht,A7 ht]
 cases hb:scB n s with
 |false=>simp
 |true=>
  have hk:=fv hb
  simp only[ag,cK,dN,al,eb,if_true]
  by_cases k3:s.Kind=3
  ·obtain⟨hn,_,r1,r2,r3,r4⟩:=gp ht hk (.inl k3)
   rw[if_pos k3,if_pos k3,af r1,ay (fu r1 r2),zU hn r1 r2 r3 r4];rfl
  ·rw[if_neg k3,if_neg k3]
theorem bf_i {n:Network} (ht:n.tot≤1048576) (s:Scan):dz G.real TE.real n s=some (bfB n s):=by
 unfold dz bfB
 rw[yE ht]
 cases hb:scB n s with
 |false=>simp
 |true=>
  have hk:=fv hb
  simp only[ag,cK,dN,al,eb,if_true]
  by_cases k3:s.Kind=3
  ·obtain⟨hn,_,r1,r2,r3,r4⟩:=gp ht hk (.inl k3)
   rw[if_pos k3,if_pos (.inl k3),af r1,ay (fu r1 r2),mW hn r1 r2 r3 r4];rfl
  ·rw[if_neg k3]
   by_cases k2:s.Kind=2
   ·obtain⟨hn,_,r1,r2,r3,r4⟩:=gp ht hk (.inr k2)
    rw[if_pos k2,if_pos (.inr k2),af r1,ay (fu r1 r2),mW hn r1 r2 r3 r4];rfl
   ·rw[if_neg k2,if_neg (fun h=>h.elim k3 k2)]
end Go.Vs
namespace Go.Vs
open Go.IntWalk Go.Lib
theorem lz {n:Network} (hn:NetOk n) {p:ByteArray} (h:p∈plc n):p.size=3∧Abc p:=by
 obtain⟨x,hx,h|h⟩:=(kM n p).1 h
 ·subst h;exact⟨(hn.legs x hx).from3,(hn.legs x hx).abc.1⟩
 ·subst h;exact⟨(hn.legs x hx).to3,(hn.legs x hx).abc.2⟩
def whr (s:Scan):List UInt8:=if s.Kind=3∨s.Kind=2 then itoa s.Trip.Leg++47::itoa s.Trip.Day else s.Place.data.toList
def scT (s:Scan):List UInt8:=tmT s.At++32::(itoa s.Thing++32::(wrd s.Kind++32::whr s))
def fsB (n:Network) (s:Scan):ByteArray:=if scB n s=true then st (scT s) else st []
theorem jj {n:Network} (ht:n.tot≤1048576) {s:Scan} (h:ScOk n s) (hk:s.Kind=3∨s.Kind=2):0≤s.Trip.Leg∧s.Trip.Leg≤20∧0≤s.Trip.Day∧s.Trip.Day≤60:=by
 obtain⟨hn,_,r1,r2,r3,r4⟩:=gp ht h hk
 have:=hn.len
 exact⟨r1,by omega,r3,r4⟩
theorem yV {n:Network} (ht:n.tot≤1048576) (s:Scan):ca G.real TE.real n s=some (fsB n s):=by
 unfold ca fsB
 rw[yE ht,ag]
 cases hb:scB n s with
 |false=>rw[mO,if_neg (by simp)];rfl
 |true=>
  have hk:=fv hb
  have h1:=qV hk.time
  have h2:=cY (x:=s.Thing) ⟨by have:=hk.thing;omega,by have:=hk.thing;omega⟩
  have h3:=qo s.Kind
  rw[cK,if_pos rfl,dN,dN,al,al,Bm,wU (x:=s.Thing) ⟨by have:=hk.thing;omega,by have:=hk.thing;omega⟩,zV (by have:=hk.kind;omega)]
  unfold ftB
  rw[if_pos hk.time,show ah=st [32] from rfl,show bo=st [47] from rfl]
  by_cases k:s.Kind=3∨s.Kind=2
  ·have hl:=jj ht hk k
   have h4:=cY (x:=s.Trip.Leg) ⟨by omega,by omega⟩
   have h5:=cY (x:=s.Trip.Day) ⟨by omega,by omega⟩
   have w:whr s=itoa s.Trip.Leg++47::itoa s.Trip.Day:=by unfold whr;rw[if_pos k]
   rw[wU (x:=s.Trip.Leg) ⟨by omega,by omega⟩,wU (x:=s.Trip.Day) ⟨by omega,by omega⟩]
   simp only[ag,cU,am]
   have pick:∀(a b:Option ByteArray),(s.Kind=3∨s.Kind=2)→(if s.Kind=3 then a else if s.Kind=2 then a else b)=a:=fun a b k=>by
    rcases k with k|k
    ·rw[if_pos k]
    ·rw[if_neg (by omega),if_pos k]
   rw[pick _ _ k]
   rw[af (by simp only[List.length_append,List.length_cons,List.length_nil];omega),af (by simp only[List.length_append,List.length_cons,List.length_nil];omega),af (by simp only[List.length_append,List.length_cons,List.length_nil];omega),af (by simp only[List.length_append,List.length_cons,List.length_nil];omega),af (by simp only[List.length_append,List.length_cons,List.length_nil];omega),af (by simp only[List.length_append,List.length_cons,List.length_nil];omega),af (by simp only[List.length_append,List.length_cons,List.length_nil];omega),af (by simp only[List.length_append,List.length_cons,List.length_nil];omega)]
   unfold scT
   rw[w]
   simp
  ·have hp:=hk.at_ (by have:=hk.kind;omega)
   have h4:=(lz (fr ht hk.net) hp.1).1
   have w:whr s=s.Place.data.toList:=by unfold whr;rw[if_neg k]
   have hl:s.Place.data.toList.length=s.Place.size:=Array.length_toList
   rw[if_neg (fun h=>k (.inl h)),if_neg (fun h=>k (.inr h))]
   unfold scT
   rw[w,←nd s.Place] at*
   generalize s.Place.data.toList=p at*
   rw[am] at h4
   simp only[ag,cU,am]
   rw[af (by simp only[List.length_append,List.length_cons,List.length_nil];omega),af (by simp only[List.length_append,List.length_cons,List.length_nil];omega),af (by simp only[List.length_append,List.length_cons,List.length_nil];omega),af (by simp only[List.length_append,List.length_cons,List.length_nil];omega),af (by simp only[List.length_append,List.length_cons,List.length_nil];omega),af (by simp only[List.length_append,List.length_cons,List.length_nil];omega)]
   simp
   rfl
theorem Bn {n:Network} (ht:n.tot≤1048576) (s:Scan):ci G.real TE.real n s=some (fsB n s):=by
 unfold ci fsB
 rw[BQ ht,ag]
 cases hb:scB n s with
 |false=>rw[mO,if_neg (by simp)];rfl
 |true=>
  have hk:=fv hb
  have h1:=qV hk.time
  have h2:=cY (x:=s.Thing) ⟨by have:=hk.thing;omega,by have:=hk.thing;omega⟩
  have h3:=qo s.Kind
  rw[cK,if_pos rfl,ft_s,vb (x:=s.Thing) ⟨by have:=hk.thing;omega,by have:=hk.thing;omega⟩,zR]
  unfold ftB
  rw[if_pos hk.time,show ah=st [32] from rfl,show bo=st [47] from rfl,bL]
  by_cases k:s.Kind=3∨s.Kind=2
  ·have hl:=jj ht hk k
   have h4:=cY (x:=s.Trip.Leg) ⟨by omega,by omega⟩
   have h5:=cY (x:=s.Trip.Day) ⟨by omega,by omega⟩
   have w:whr s=itoa s.Trip.Leg++47::itoa s.Trip.Day:=by unfold whr;rw[if_pos k]
   have hpl:s.Place=str_k0:=by
    rcases k with k|k
    ·exact(hk.load k).1
    ·exact(hk.drop k).1
   rw[decide_eq_true hpl,vb (x:=s.Trip.Leg) ⟨by omega,by omega⟩,vb (x:=s.Trip.Day) ⟨by omega,by omega⟩]
   simp only[ag,bc,cU,am,cK]
   rw[af (by simp only[List.length_append,List.length_cons,List.length_nil];omega),af (by simp only[List.length_append,List.length_cons,List.length_nil];omega),af (by simp only[List.length_append,List.length_cons,List.length_nil];omega),af (by simp only[List.length_append,List.length_cons,List.length_nil];omega),af (by simp only[List.length_append,List.length_cons,List.length_nil];omega),af (by simp only[List.length_append,List.length_cons,List.length_nil];omega),af (by simp only[List.length_append,List.length_cons,List.length_nil];omega),af (by simp only[List.length_append,List.length_cons,List.length_nil];omega)]
   unfold scT
   rw[w]
   simp
  ·have hp:=hk.at_ (by have:=hk.kind;omega)
   have h4:=(lz (fr ht hk.net) hp.1).1
   have w:whr s=s.Place.data.toList:=by unfold whr;rw[if_neg k]
   have hl:s.Place.data.toList.length=s.Place.size:=Array.length_toList
   rw[decide_eq_false (fun h=>by rw[h] at h4;cases h4)]
   unfold scT
   rw[w,←nd s.Place] at*
   generalize s.Place.data.toList=p at*
   rw[am] at h4
   simp only[ag,bc,cU,am,mO]
   rw[af (by simp only[List.length_append,List.length_cons,List.length_nil];omega),af (by simp only[List.length_append,List.length_cons,List.length_nil];omega),af (by simp only[List.length_append,List.length_cons,List.length_nil];omega),af (by simp only[List.length_append,List.length_cons,List.length_nil];omega),af (by simp only[List.length_append,List.length_cons,List.length_nil];omega),af (by simp only[List.length_append,List.length_cons,List.length_nil];omega)]
   simp
   rfl
end Go.Vs
