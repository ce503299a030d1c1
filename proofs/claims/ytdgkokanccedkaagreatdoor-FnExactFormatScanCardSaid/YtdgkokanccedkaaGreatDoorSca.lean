/- Part of the proofs of this seat's laws: Sca. No condition. -/
import Derived.Test.YtdgkokanccedkaaGreatDoorPla
import Derived.Test.YtdgkokanccedkaaGreatDoorNet
import Derived.Test.YtdgkokanccedkaaGreatDoorLaa
import Derived.Test.YtdgkokanccedkaaGreatDoorLab
set_option linter.unusedVariables false
set_option linter.unusedSimpArgs false
set_option linter.unusedSectionVars false
namespace Go.Vs
open Go.IntWalk Go.Lib
theorem gY {m:Nat} (h:m<9000000000000000000):I6 (m:Int):=⟨by omega,by omega⟩
theorem cL (a b:List UInt8):G.real.cat (st a) (st b)=st (a++b):=by rw[rR,pg]
theorem tp {v:Int} {k:Nat} (h:v=(k:Int)) (hk:k≤1000):cA G.real TE.real dv v=some (st (repeatL [48] k)):=by
 subst h
 unfold cA
 rw[ag ⟨by omega,by omega,by decide⟩,Int.toNat_natCast]
 rfl
theorem uQ {x:Nat} (h:x<100):eO G.real TE.real (x:Int) 2=some (st (two x)):=by
 unfold eO
 rw[tg (gY (by omega)),al,kZ h,hB,gC,aC]
 by_cases h1:x<10
 ·rw[if_pos h1,tp (k:=1) (show G.real.imax 0 (G.real.wrap .i64 (G.real.sub 2 (([UInt8.ofNat (48+x%10)]:List UInt8).length:Int)))=((1:Nat):Int) from rfl) (by decide),al,aC,ag (by simp[repeatL]),cL]
  unfold two
  rw[Nat.div_eq_of_lt h1]
  rfl
 ·rw[if_neg h1,tp (k:=0) (show G.real.imax 0 (G.real.wrap .i64 (G.real.sub 2 ((two x).length:Int)))=((0:Nat):Int) from rfl) (by decide),al,aC,ag (by simp[repeatL,two]),cL]
  rfl
theorem sN (m:Nat) (v:List UInt8) (h:1≤v.length):bn G.real TE.real 2 (m+2) (st v)=some (st (if v.length<2 then 48::v else v)):=by
 rw[bn,fq,hB,gC,aC,aE]
 by_cases h1:v.length<2
 ·rw[if_pos (by omega),if_pos h1,ag (by rw[show dv=st [48] from rfl,aC];simp;omega),show dv=st [48] from rfl,cL,bn,fq,hB,gC,aC,aE,if_neg (by simp;omega)]
  rfl
 ·rw[if_neg (by omega),if_neg h1]
theorem uK {x:Nat} (h:x<100):df G.real TE.real (x:Int) 2=some (st (two x)):=by
 unfold df
 rw[tA (gY (by omega)),al,kZ h,show(1000000000:Nat)=999999998+2 from rfl]
 by_cases h1:x<10
 ·rw[if_pos h1,sN _ _ (by simp),al,if_pos (by simp)]
  unfold two
  rw[Nat.div_eq_of_lt h1]
  rfl
 ·rw[if_neg h1,sN _ _ (by simp[two]),al,if_neg (by simp[two])]
theorem tX {m:Nat} (h:m<1440):hC G.real TE.real (m:Int)=some (st (clk m)):=by
 unfold hC
 rw[mE,lu,show(m:Int).tdiv 60=((m/60:Nat):Int) from rfl,show(m:Int).tmod 60=((m%60:Nat):Int) from rfl,w64 (by omega) (by omega),uQ (by omega),al,show cI=st [58] from rfl,aC,aC,ag (by simp[two]),uQ (by omega),al,cL,aC,aC,ag (by simp[two]),cL]
 unfold clk
 simp
theorem ub {m:Nat} (h:m<1440):eJ G.real TE.real (m:Int)=some (st (clk m)):=by
 unfold eJ
 rw[mE,lu,show(m:Int).tdiv 60=((m/60:Nat):Int) from rfl,show(m:Int).tmod 60=((m%60:Nat):Int) from rfl,w64 (by omega) (by omega),uK (by omega),al,show cI=st [58] from rfl,aC,aC,ag (by simp[two]),uK (by omega),al,cL,aC,aC,ag (by simp[two]),cL]
 unfold clk
 simp
theorem cZ {x:Int} (h:I6 x):(itoa x).length≤21:=itoa_length_le _ h.1 h.2
theorem pL {t:Int} (h:0≤t∧t≤100000):(tmT t).length≤27:=by
 have:=cZ (x:=((t.toNat/1440:Nat):Int)) (gY (by omega))
 have:=mU (t.toNat%1440)
 unfold tmT
 simp only[List.length_append,List.length_cons]
 omega
def ftB (t:Int):ByteArray:=if 0≤t∧t≤100000 then st (tmT t) else st []
theorem ft_i (t:Int):cd G.real TE.real t=some (ftB t):=by
 unfold cd ftB
 rw[bp,eC,aE]
 by_cases h:0≤t∧t≤100000
 ·obtain⟨m,rfl⟩:=Int.eq_ofNat_of_zero_le h.1
  have h1:=cZ (x:=((m/1440:Nat):Int)) (gY (by omega))
  rw[if_pos h,if_pos h,mE,lu,show(m:Int).tdiv 1440=((m/1440:Nat):Int) from rfl,show(m:Int).tmod 1440=((m%1440:Nat):Int) from rfl,w64 (by omega) (by omega),tg (gY (by omega)),al,show ac=st [32] from rfl,aC,aC,ag (by simp only[List.length_append,List.length_cons,List.length_nil];omega),tX (by omega),al,cL,aC,aC,ag (by simp only[List.length_append,List.length_cons,List.length_nil,mU];omega),cL]
  unfold tmT
  rw[Int.toNat_natCast]
  simp
 ·rw[if_neg h,if_neg h];rfl
theorem ft_s (t:Int):c7 G.real TE.real t=some (ftB t):=by
 unfold c7 ftB
 rw[bp,gE,aE]
 by_cases h:0≤t∧t≤100000
 ·obtain⟨m,rfl⟩:=Int.eq_ofNat_of_zero_le h.1
  have h1:=cZ (x:=((m/1440:Nat):Int)) (gY (by omega))
  rw[if_pos h,if_pos h,mE,lu,show(m:Int).tdiv 1440=((m/1440:Nat):Int) from rfl,show(m:Int).tmod 1440=((m%1440:Nat):Int) from rfl,w64 (by omega) (by omega),tA (gY (by omega)),al,show ac=st [32] from rfl,aC,aC,ag (by simp only[List.length_append,List.length_cons,List.length_nil];omega),ub (by omega),al,cL,aC,aC,ag (by simp only[List.length_append,List.length_cons,List.length_nil,mU];omega),cL]
  unfold tmT
  rw[Int.toNat_natCast]
  simp
 ·rw[if_neg h,if_neg h];rfl
def wrd (k:Int):List UInt8:=if k=1 then[104,101,114,101] else if k=3 then[108,111,97,100] else if k=2 then[100,114,111,112] else[100,111,110,101]
theorem we (k:Int):fH G.real TE.real k=st (wrd k):=by
 unfold fH wrd
 simp only[fF,aE]
 split
 ·rfl
 ·split
  ·rfl
  ·split<;>rfl
theorem wo {k:Int} (h:1≤k∧k≤4):di G.real TE.real k=some (st (wrd k)):=by
 have:k=1∨k=2∨k=3∨k=4:=by omega
 rcases this with rfl|rfl|rfl|rfl<;>rfl
theorem p5 (k:Int):(wrd k).length=4:=by
 unfold wrd
 split
 ·rfl
 ·split
  ·rfl
  ·split<;>rfl
end Go.Vs
namespace Go.Vs
open Go.IntWalk
def scB (n:Network) (s:Scan):Bool:=
 netB n&&(decide (1≤s.Thing∧s.Thing≤9999)&&(decide (0≤s.At∧s.At≤100000)&&
 (if s.Kind=1∨s.Kind=4 then decide (s.Place∈plc n)&&decide (s.Trip.Leg=0∧s.Trip.Day=0)
  else if s.Kind=3 then decide (s.Place=str_k0)&&(runsB n s.Trip.Leg s.Trip.Day&&decide (s.At≤stN n s.Trip.Leg s.Trip.Day))
  else if s.Kind=2 then decide (s.Place=str_k0)&&(runsB n s.Trip.Leg s.Trip.Day&&decide (enN n s.Trip.Leg s.Trip.Day≤s.At)) else false)))
theorem sc_i {n:Network} (ht:n.tot≤1048576) (s:Scan):fz G.real TE.real n s=some (scB n s):=by
 unfold fz scB
 rw[uH ht]
 cases hb:netB n with
 |false=>rfl
 |true=>
  have hn:=lp ht hb
  have hl:=hn.len
  have pl:=p6 n
  have htr:∀q:Trip,eb G.real TE.real n q=some (runsB n q.Leg q.Day):=fun q=>by rw[uY ht];unfold mt;rw[hb];rfl
  simp only[al,eK,bp,eC,aE,fF,pG,gB,uJ,Bool.true_and,htr]
  rw[wk (by omega)]
  simp only[al,uP (show(plc n).length≤4194304 by omega),mH]
  by_cases h1:1≤s.Thing∧s.Thing≤9999
  ·rw[if_pos h1,decide_eq_true h1,Bool.true_and]
   by_cases h2:0≤s.At∧s.At≤100000
   ·rw[if_pos h2,decide_eq_true h2,Bool.true_and]
    have hal:(List.all [decide (s.Trip.Leg=0),decide (s.Trip.Day=0)] id)=decide (s.Trip.Leg=0∧s.Trip.Day=0):=by simp
    by_cases k1:s.Kind=1
    ·rw[if_pos k1,if_pos (c:=s.Kind=1∨s.Kind=4) (.inl k1),hal]
     by_cases hp:s.Place∈plc n
     ·rw[if_pos hp,decide_eq_true hp];rfl
     ·rw[if_neg hp,decide_eq_false hp];rfl
    ·rw[if_neg k1]
     by_cases k4:s.Kind=4
     ·rw[if_pos k4,if_pos (c:=s.Kind=1∨s.Kind=4) (.inr k4),hal]
      by_cases hp:s.Place∈plc n
      ·rw[if_pos hp,decide_eq_true hp];rfl
      ·rw[if_neg hp,decide_eq_false hp];rfl
     ·rw[if_neg k4,if_neg (c:=s.Kind=1∨s.Kind=4) (fun h=>h.elim k1 k4)]
      by_cases k3:s.Kind=3
      ·rw[if_pos k3,if_pos k3]
       by_cases hp:s.Place=str_k0
       ·rw[if_pos hp,decide_eq_true hp,Bool.true_and]
        cases hr:runsB n s.Trip.Leg s.Trip.Day with
        |false=>rfl
        |true=>
         obtain⟨r1,r2,r3,r4⟩:=hJ (n:=n) (by omega) hr
         rw[eK,pY hn r1 r2 r3 r4];rfl
       ·rw[if_neg hp,decide_eq_false hp];rfl
      ·rw[if_neg k3,if_neg k3]
       by_cases k2:s.Kind=2
       ·rw[if_pos k2,if_pos k2]
        by_cases hp:s.Place=str_k0
        ·rw[if_pos hp,decide_eq_true hp,Bool.true_and]
         cases hr:runsB n s.Trip.Leg s.Trip.Day with
         |false=>rfl
         |true=>
          obtain⟨r1,r2,r3,r4⟩:=hJ (n:=n) (by omega) hr
          rw[eK,v9 hn r1 r2 r3 r4];rfl
        ·rw[if_neg hp,decide_eq_false hp];rfl
       ·rw[if_neg k2,if_neg k2]
   ·rw[if_neg h2,decide_eq_false h2];rfl
  ·rw[if_neg h1,decide_eq_false h1];rfl
theorem sc_s {n:Network} (ht:n.tot≤1048576) (s:Scan):fQ G.real TE.real n s=some (scB n s):=by
 unfold fQ scB
 rw[uE ht]
 cases hb:netB n with
 |false=>rfl
 |true=>
  have hn:=lp ht hb
  have hl:=hn.len
  have pl:=p6 n
  have htr:∀q:Trip,ee G.real TE.real n q=some (runsB n q.Leg q.Day):=fun q=>by rw[u6 ht];unfold mt;rw[hb];rfl
  simp only[al,eK,bp,gE,aE,fF,pG,gB,uJ,Bool.true_and,htr]
  rw[vV (by omega)]
  simp only[al,wn (show(plc n).length≤4194304 by omega),mH]
  by_cases h1:1≤s.Thing∧s.Thing≤9999
  ·rw[if_pos h1,decide_eq_true h1,Bool.true_and]
   by_cases h2:0≤s.At∧s.At≤100000
   ·rw[if_pos h2,decide_eq_true h2,Bool.true_and]
    have hal:(List.all [decide (s.Trip.Leg=0),decide (s.Trip.Day=0)] id)=decide (s.Trip.Leg=0∧s.Trip.Day=0):=by simp
    by_cases k1:s.Kind=1
    ·rw[if_pos k1,if_pos (c:=s.Kind=1∨s.Kind=4) (.inl k1),hal]
     by_cases hp:s.Place∈plc n
     ·rw[if_pos hp,decide_eq_true hp];rfl
     ·rw[if_neg hp,decide_eq_false hp];rfl
    ·rw[if_neg k1]
     by_cases k4:s.Kind=4
     ·rw[if_pos k4,if_pos (c:=s.Kind=1∨s.Kind=4) (.inr k4),hal]
      by_cases hp:s.Place∈plc n
      ·rw[if_pos hp,decide_eq_true hp];rfl
      ·rw[if_neg hp,decide_eq_false hp];rfl
     ·rw[if_neg k4,if_neg (c:=s.Kind=1∨s.Kind=4) (fun h=>h.elim k1 k4)]
      by_cases k3:s.Kind=3
      ·rw[if_pos k3,if_pos k3]
       by_cases hp:s.Place=str_k0
       ·rw[if_pos hp,decide_eq_true hp,Bool.true_and]
        cases hr:runsB n s.Trip.Leg s.Trip.Day with
        |false=>rfl
        |true=>
         obtain⟨r1,r2,r3,r4⟩:=hJ (n:=n) (by omega) hr
         rw[eK,qr hn r1 r2 r3 r4];rfl
       ·rw[if_neg hp,decide_eq_false hp];rfl
      ·rw[if_neg k3,if_neg k3]
       by_cases k2:s.Kind=2
       ·rw[if_pos k2,if_pos k2]
        by_cases hp:s.Place=str_k0
        ·rw[if_pos hp,decide_eq_true hp,Bool.true_and]
         cases hr:runsB n s.Trip.Leg s.Trip.Day with
         |false=>rfl
         |true=>
          obtain⟨r1,r2,r3,r4⟩:=hJ (n:=n) (by omega) hr
          rw[eK,wg hn r1 r2 r3 r4];rfl
        ·rw[if_neg hp,decide_eq_false hp];rfl
       ·rw[if_neg k2,if_neg k2]
   ·rw[if_neg h2,decide_eq_false h2];rfl
  ·rw[if_neg h1,decide_eq_false h1];rfl
structure ScOk (n:Network) (s:Scan):Prop where
 net:netB n=true
 thing:1≤s.Thing∧s.Thing≤9999
 time:0≤s.At∧s.At≤100000
 kind:s.Kind=1∨s.Kind=2∨s.Kind=3∨s.Kind=4
 at_:s.Kind=1∨s.Kind=4→s.Place∈plc n∧s.Trip.Leg=0∧s.Trip.Day=0
 load:s.Kind=3→s.Place=str_k0∧runsB n s.Trip.Leg s.Trip.Day=true∧s.At≤stN n s.Trip.Leg s.Trip.Day
 drop:s.Kind=2→s.Place=str_k0∧runsB n s.Trip.Leg s.Trip.Day=true∧enN n s.Trip.Leg s.Trip.Day≤s.At
theorem uM {n:Network} {s:Scan} (h:scB n s=true):ScOk n s:=by
 unfold scB at h
 simp only[Bool.and_eq_true,decide_eq_true_eq] at h
 obtain⟨h1,h2,h3,h4⟩:=h
 by_cases k1:s.Kind=1∨s.Kind=4
 ·rw[if_pos k1] at h4
  simp only[Bool.and_eq_true,decide_eq_true_eq] at h4
  exact⟨h1,h2,h3,by omega,fun _=>h4,fun h=>by omega,fun h=>by omega⟩
 ·rw[if_neg k1] at h4
  by_cases k3:s.Kind=3
  ·rw[if_pos k3] at h4
   simp only[Bool.and_eq_true,decide_eq_true_eq] at h4
   exact⟨h1,h2,h3,by omega,fun h=>absurd h k1,fun _=>h4,fun h=>by omega⟩
  ·rw[if_neg k3] at h4
   by_cases k2:s.Kind=2
   ·rw[if_pos k2] at h4
    simp only[Bool.and_eq_true,decide_eq_true_eq] at h4
    exact⟨h1,h2,h3,by omega,fun h=>absurd h k1,fun h=>absurd h k3,fun _=>h4⟩
   ·rw[if_neg k2] at h4;cases h4
theorem tK {n:Network} (ht:n.tot≤1048576) {s:Scan} (h:ScOk n s) (hk:s.Kind=3∨s.Kind=2):NetOk n∧runsB n s.Trip.Leg s.Trip.Day=true∧0≤s.Trip.Leg∧s.Trip.Leg<n.Legs.length∧0≤s.Trip.Day∧s.Trip.Day≤60:=by
 have hn:=lp ht h.net
 have hl:=hn.len
 have hr:runsB n s.Trip.Leg s.Trip.Day=true:=by
  rcases hk with hk|hk
  ·exact(h.load hk).2.1
  ·exact(h.drop hk).2.1
 obtain⟨r1,r2,r3,r4⟩:=hJ (n:=n) (by omega) hr
 exact⟨hn,hr,r1,r2,r3,r4⟩
end Go.Vs
namespace Go.Vs
open Go.IntWalk Go.Lib
theorem se {n:Network} (hn:NetOk n) {p:ByteArray} (h:p∈plc n):p.size=3∧Abc p:=by
 obtain⟨x,hx,h|h⟩:=(uz n p).1 h
 ·subst h;exact⟨(hn.legs x hx).from3,(hn.legs x hx).abc.1⟩
 ·subst h;exact⟨(hn.legs x hx).to3,(hn.legs x hx).abc.2⟩
def whr (s:Scan):List UInt8:=if s.Kind=3∨s.Kind=2 then itoa s.Trip.Leg++47::itoa s.Trip.Day else s.Place.data.toList
def scT (s:Scan):List UInt8:=tmT s.At++32::(itoa s.Thing++32::(wrd s.Kind++32::whr s))
def fsB (n:Network) (s:Scan):ByteArray:=if scB n s=true then st (scT s) else st []
theorem qh {n:Network} (ht:n.tot≤1048576) {s:Scan} (h:ScOk n s) (hk:s.Kind=3∨s.Kind=2):0≤s.Trip.Leg∧s.Trip.Leg≤20∧0≤s.Trip.Day∧s.Trip.Day≤60:=by
 obtain⟨hn,_,r1,r2,r3,r4⟩:=tK ht h hk
 have:=hn.len
 exact⟨r1,by omega,r3,r4⟩
theorem fs_i {n:Network} (ht:n.tot≤1048576) (s:Scan):cW G.real TE.real n s=some (fsB n s):=by
 unfold cW fsB
 rw[sc_i ht,al]
 cases hb:scB n s with
 |false=>rw[sJ,if_neg (by simp)];rfl
 |true=>
  have hk:=uM hb
  have h1:=pL hk.time
  have h2:=cZ (x:=s.Thing) ⟨by have:=hk.thing;omega,by have:=hk.thing;omega⟩
  have h3:=p5 s.Kind
  rw[eK,if_pos rfl,fF,fF,aE,aE,ft_i,tg (x:=s.Thing) ⟨by have:=hk.thing;omega,by have:=hk.thing;omega⟩,wo (by have:=hk.kind;omega)]
  unfold ftB
  rw[if_pos hk.time,show ac=st [32] from rfl,show bv=st [47] from rfl]
  by_cases k:s.Kind=3∨s.Kind=2
  ·have hl:=qh ht hk k
   have h4:=cZ (x:=s.Trip.Leg) ⟨by omega,by omega⟩
   have h5:=cZ (x:=s.Trip.Day) ⟨by omega,by omega⟩
   have w:whr s=itoa s.Trip.Leg++47::itoa s.Trip.Day:=by unfold whr;rw[if_pos k]
   rw[tg (x:=s.Trip.Leg) ⟨by omega,by omega⟩,tg (x:=s.Trip.Day) ⟨by omega,by omega⟩]
   simp only[al,cL,aC]
   have pick:∀(a b:Option ByteArray),(s.Kind=3∨s.Kind=2)→(if s.Kind=3 then a else if s.Kind=2 then a else b)=a:=fun a b k=>by
    rcases k with k|k
    ·rw[if_pos k]
    ·rw[if_neg (by omega),if_pos k]
   rw[pick _ _ k]
   rw[ag (by simp only[List.length_append,List.length_cons,List.length_nil];omega),ag (by simp only[List.length_append,List.length_cons,List.length_nil];omega),ag (by simp only[List.length_append,List.length_cons,List.length_nil];omega),ag (by simp only[List.length_append,List.length_cons,List.length_nil];omega),ag (by simp only[List.length_append,List.length_cons,List.length_nil];omega),ag (by simp only[List.length_append,List.length_cons,List.length_nil];omega),ag (by simp only[List.length_append,List.length_cons,List.length_nil];omega),ag (by simp only[List.length_append,List.length_cons,List.length_nil];omega)]
   unfold scT
   rw[w]
   simp
  ·have hp:=hk.at_ (by have:=hk.kind;omega)
   have h4:=(se (lp ht hk.net) hp.1).1
   have w:whr s=s.Place.data.toList:=by unfold whr;rw[if_neg k]
   have hl:s.Place.data.toList.length=s.Place.size:=Array.length_toList
   rw[if_neg (fun h=>k (.inl h)),if_neg (fun h=>k (.inr h))]
   unfold scT
   rw[w,←qi s.Place] at*
   generalize s.Place.data.toList=p at*
   rw[aC] at h4
   simp only[al,cL,aC]
   rw[ag (by simp only[List.length_append,List.length_cons,List.length_nil];omega),ag (by simp only[List.length_append,List.length_cons,List.length_nil];omega),ag (by simp only[List.length_append,List.length_cons,List.length_nil];omega),ag (by simp only[List.length_append,List.length_cons,List.length_nil];omega),ag (by simp only[List.length_append,List.length_cons,List.length_nil];omega),ag (by simp only[List.length_append,List.length_cons,List.length_nil];omega)]
   simp
   rfl
theorem fs_s {n:Network} (ht:n.tot≤1048576) (s:Scan):cY G.real TE.real n s=some (fsB n s):=by
 unfold cY fsB
 rw[sc_s ht,al]
 cases hb:scB n s with
 |false=>rw[sJ,if_neg (by simp)];rfl
 |true=>
  have hk:=uM hb
  have h1:=pL hk.time
  have h2:=cZ (x:=s.Thing) ⟨by have:=hk.thing;omega,by have:=hk.thing;omega⟩
  have h3:=p5 s.Kind
  rw[eK,if_pos rfl,ft_s,tA (x:=s.Thing) ⟨by have:=hk.thing;omega,by have:=hk.thing;omega⟩,we]
  unfold ftB
  rw[if_pos hk.time,show ac=st [32] from rfl,show bv=st [47] from rfl,gB]
  by_cases k:s.Kind=3∨s.Kind=2
  ·have hl:=qh ht hk k
   have h4:=cZ (x:=s.Trip.Leg) ⟨by omega,by omega⟩
   have h5:=cZ (x:=s.Trip.Day) ⟨by omega,by omega⟩
   have w:whr s=itoa s.Trip.Leg++47::itoa s.Trip.Day:=by unfold whr;rw[if_pos k]
   have hpl:s.Place=str_k0:=by
    rcases k with k|k
    ·exact(hk.load k).1
    ·exact(hk.drop k).1
   rw[decide_eq_true hpl,tA (x:=s.Trip.Leg) ⟨by omega,by omega⟩,tA (x:=s.Trip.Day) ⟨by omega,by omega⟩]
   simp only[al,bp,cL,aC,eK]
   rw[ag (by simp only[List.length_append,List.length_cons,List.length_nil];omega),ag (by simp only[List.length_append,List.length_cons,List.length_nil];omega),ag (by simp only[List.length_append,List.length_cons,List.length_nil];omega),ag (by simp only[List.length_append,List.length_cons,List.length_nil];omega),ag (by simp only[List.length_append,List.length_cons,List.length_nil];omega),ag (by simp only[List.length_append,List.length_cons,List.length_nil];omega),ag (by simp only[List.length_append,List.length_cons,List.length_nil];omega),ag (by simp only[List.length_append,List.length_cons,List.length_nil];omega)]
   unfold scT
   rw[w]
   simp
  ·have hp:=hk.at_ (by have:=hk.kind;omega)
   have h4:=(se (lp ht hk.net) hp.1).1
   have w:whr s=s.Place.data.toList:=by unfold whr;rw[if_neg k]
   have hl:s.Place.data.toList.length=s.Place.size:=Array.length_toList
   rw[decide_eq_false (fun h=>by rw[h] at h4;cases h4)]
   unfold scT
   rw[w,←qi s.Place] at*
   generalize s.Place.data.toList=p at*
   rw[aC] at h4
   simp only[al,bp,cL,aC,sJ]
   rw[ag (by simp only[List.length_append,List.length_cons,List.length_nil];omega),ag (by simp only[List.length_append,List.length_cons,List.length_nil];omega),ag (by simp only[List.length_append,List.length_cons,List.length_nil];omega),ag (by simp only[List.length_append,List.length_cons,List.length_nil];omega),ag (by simp only[List.length_append,List.length_cons,List.length_nil];omega),ag (by simp only[List.length_append,List.length_cons,List.length_nil];omega)]
   simp
   rfl
end Go.Vs
