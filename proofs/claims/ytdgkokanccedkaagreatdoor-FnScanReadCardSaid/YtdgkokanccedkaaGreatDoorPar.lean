/- Part of the proofs of this seat's laws: Par. No condition. -/
import Derived.Test.YtdgkokanccedkaaGreatDoorSca
import Derived.Test.YtdgkokanccedkaaGreatDoorLab
import Derived.Test.YtdgkokanccedkaaGreatDoorLaa
set_option linter.unusedVariables false
set_option linter.unusedSimpArgs false
set_option linter.unusedSectionVars false
namespace Go.Vs
open Go.IntWalk Go.Lib
def slc (L:List UInt8) (i j:Nat):List UInt8:=(L.take j).drop i
theorem sL (s:ByteArray) (i j:Nat):G.real.sub3 s (i:Int) (j:Int)=st (slc s.data.toList i j):=by
 show s.extract i j=_
 apply ByteArray.ext
 rw[ByteArray.data_extract]
 unfold st slc
 apply Array.toList_inj.1
 rw[Array.toList_extract,List.drop_take]
theorem wY (L:List UInt8) (k:Nat):slc L k k=[]:=by unfold slc;simp
theorem wM {L:List UInt8} {i k:Nat} {x:UInt8} (hi:i≤k) (hx:L[k]?=some x):slc L i (k+1)=slc L i k++[x]:=by
 have hk:=(List.getElem?_eq_some_iff.1 hx).1
 unfold slc
 rw[List.take_add_one,hx,List.drop_append,Option.toList_some,List.length_take,show i-min k L.length=0 by omega,List.drop_zero]
theorem uK {s:ByteArray} {k:Nat} {x:UInt8} (hx:s.data.toList[k]?=some x):G.real.byte s (k:Int)=(x.toNat:Int):=by
 have e:G.real.byte s (k:Int)=((s.data.getD k 0).toNat:Int):=rfl
 rw[e,Array.getD_eq_getD_getElem?,←Array.getElem?_toList,hx]
 rfl
theorem dH (s:ByteArray):s.data.toList.length=s.size:=Array.length_toList
theorem sY (s:ByteArray) (c:UInt8) (hs:s.size≤4000000):∀(n k f:Nat) (w:List ByteArray),k+n=s.size→f≤k→w.length≤k→
 ∃(w':List ByteArray) (f':Nat),bK G.real TE.real s (c.toNat:Int) n (k:Int) w (f:Int)=some (w',(f':Int))∧f'≤s.size∧w'.length≤s.size∧w'++[st (slc s.data.toList f' s.size)]=w++(gB c (slc s.data.toList f k) (s.data.toList.drop k)).map st
 |0,k,f,w,h,hf,hw=>by
  rw[bK]
  refine⟨w,f,rfl,by omega,by omega,?_⟩
  obtain rfl:k=s.size:=by omega
  rw[List.drop_of_length_le (by rw[dH];exact Nat.le_refl _)]
  rfl
 |n+1,k,f,w,h,hf,hw=>by
  have hk:k<s.data.toList.length:=by rw[dH];omega
  have hx:s.data.toList[k]?=some s.data.toList[k]:=List.getElem?_eq_getElem hk
  have hd:s.data.toList.drop k=s.data.toList[k]::s.data.toList.drop (k+1):=List.drop_eq_getElem_cons hk
  rw[bK,uK hx,hd,gB,dO,al,bU,w64 (by omega) (by omega),show(k:Int)+1=((k+1:Nat):Int) from rfl]
  by_cases he:s.data.toList[k]=c
  ·rw[if_pos (by rw[he]),if_pos he,af (by omega),bc,af (by simp;omega),bc,sL]
   obtain⟨w',f',e1,e2,e3,e4⟩:=sY s c hs n (k+1) (k+1) (w++[st (slc s.data.toList f k)]) (by omega) (Nat.le_refl _) (by simp;omega)
   refine⟨w',f',e1,e2,e3,?_⟩
   rw[e4,wY,List.append_assoc]
   rfl
  ·rw[if_neg (fun h=>he (UInt8.toNat_inj.1 (by omega))),if_neg he]
   obtain⟨w',f',e1,e2,e3,e4⟩:=sY s c hs n (k+1) f w (by omega) (by omega) (by omega)
   exact⟨w',f',e1,e2,e3,by rw[e4,wM hf hx]⟩
theorem xg {s:ByteArray} (hs:s.size≤4000000) (c:UInt8):dA G.real TE.real s (c.toNat:Int)=some ((spl c s.data.toList).map st):=by
 obtain⟨w',f',e1,e2,e3,e4⟩:=sY s c hs s.size 0 0 [] (by omega) (Nat.le_refl _) (Nat.le_refl _)
 have cn:aO 0 (s.size:Int)=s.size:=by unfold aO;omega
 unfold dA
 rw[bc,dP,ge,af (by omega),cn,show(0:Int)=((0:Nat):Int) from rfl,e1,ah]
 dsimp only
 rw[af (by omega),bc,af (by simp;omega),bc,sL,e4]
 unfold spl
 rfl
theorem gU (c:UInt8):∀(l a w:List UInt8),w∈gB c a l→w.length≤a.length+l.length
 |[],a,w,h=>by
  obtain rfl:w=a:=by simpa [gB] using h
  simp
 |x::l,a,w,h=>by
  rw[gB] at h
  split at h
  ·rcases List.mem_cons.1 h with rfl|h
   ·simp
   ·have:=gU c l [] w h;simp at this ⊢;omega
  ·have:=gU c l (a++[x]) w h;simp at this ⊢;omega
theorem xM (s:ByteArray) (hs:s.size≤4000000):∀(n k v:Nat),k+n=s.size→k≤11→v<10^k→
 (aR G.real TE.real s n (k:Int) (v:Int)=.ret (0,false)∨∃u:Nat,aR G.real TE.real s n (k:Int) (v:Int)=.out (u:Int)∧u<100000000000)∧
 (∀u,k+n≤11→parseUint10 v (s.data.toList.drop k)=.ok u→aR G.real TE.real s n (k:Int) (v:Int)=.out (u:Int))
 |0,k,v,h,hk,hv=>by
  have hv2:v<10^11:=Nat.lt_of_lt_of_le hv (Nat.pow_le_pow_right (by decide) hk)
  rw[aR]
  refine⟨.inr ⟨v,rfl,hv2⟩,fun u _ hu=>?_⟩
  rw[List.drop_of_length_le (by rw[dH];omega),parseUint10] at hu
  injection hu with hu
  rw[hu]
 |n+1,k,v,h,hk,hv=>by
  have hv2:v<10^11:=Nat.lt_of_lt_of_le hv (Nat.pow_le_pow_right (by decide) hk)
  have hkl:k<s.data.toList.length:=by rw[dH];omega
  have hx:s.data.toList[k]?=some s.data.toList[k]:=List.getElem?_eq_getElem hkl
  have hd:s.data.toList.drop k=s.data.toList[k]::s.data.toList.drop (k+1):=List.drop_eq_getElem_cons hkl
  have h255:=(s.data.toList[k]).toNat_lt
  rw[aR,uK hx,hd,parseUint10,eK,al,bc]
  generalize s.data.toList[k]=x at h255
  by_cases h11:(k:Int)<11
  ·rw[if_pos h11,w64 (n:=(x.toNat:Int)) (by omega) (by omega),hO,al]
   by_cases hdg:48≤x.toNat∧x.toNat≤57
   ·obtain⟨d,hd2⟩:∃d,x.toNat=48+d:=⟨x.toNat-48,by omega⟩
    rw[if_pos (by omega),if_pos hdg,bU,bU,jD,kA,w64 (n:=(k:Int)+1) (by omega) (by omega),w64 (n:=10* (v:Int)) (by omega) (by omega),w8 (n:=(x.toNat:Int)-48) (by omega) (by omega),w64 (n:=(x.toNat:Int)-48) (by omega) (by omega),w64 (by omega) (by omega),show(k:Int)+1=((k+1:Nat):Int) from rfl,show 10* (v:Int)+((x.toNat:Int)-48)=((v*10+(x.toNat-48):Nat):Int) by omega]
    have hlt:v*10+(x.toNat-48)<10^(k+1):=by rw[Nat.pow_succ];omega
    obtain⟨i1,i2⟩:=xM s hs n (k+1) (v*10+(x.toNat-48)) (by omega) (by omega) hlt
    refine⟨i1,fun u hku hu=>?_⟩
    split at hu
    ·cases hu
    ·split at hu
     ·cases hu
     ·exact i2 u (by omega) hu
   ·rw[if_neg (by omega),if_neg hdg]
    exact⟨.inl rfl,fun u _ hu=>by cases hu⟩
  ·rw[if_neg h11]
   exact⟨.inr ⟨v,rfl,hv2⟩,fun u hku _=>by omega⟩
theorem zy {m:Nat} (h:m≤1000000000):(decDigits m).length≤10:=by
 rw[decDigits_length]
 have key:∀(k m:Nat),m<10^k→1≤k→(decDigits m).length≤k:=by
  intro k
  induction k with
  |zero=>intro m _ h;omega
  |succ k ih=>
   intro m hm _
   rw[decDigits]
   split
   ·simp
   ·rw[List.length_append,List.length_singleton]
    rcases Nat.eq_zero_or_pos k with hk|hk
    ·subst hk;rw[Nat.pow_one] at hm;omega
    ·have:=ih (m/10) (by rw[Nat.pow_succ] at hm;omega) hk;omega
 have:=key 10 m (by have:(10:Nat)^10=10000000000:=by decide
                    omega) (by decide)
 rwa [decDigits_length] at this
theorem y8 {s:ByteArray} (hs:s.size≤4000000):∃r,bJ G.real TE.real s=some r∧∀m:Nat,m≤1000000000→s=st (itoa (m:Int))→r=((m:Int),true):=by
 have cn:aO 0 (s.size:Int)=s.size:=by unfold aO;omega
 obtain⟨i1,i2⟩:=xM s hs s.size 0 0 (by omega) (by omega) (by decide)
 unfold bJ
 rw[dP,ge,af (by omega),cn,bc]
 have ex:∀m:Nat,m≤1000000000→s=st (itoa (m:Int))→aR G.real TE.real s s.size 0 0=.out (m:Int):=fun m hm e=>by
  refine i2 m ?_ ?_
  ·have hlen:=zy hm
   rw[e,gH,am];omega
  ·rw[e,gH,List.drop_zero]
   show parseUint10 0 (st (decDigits m)).data.toList=_
   rw[show(st (decDigits m)).data.toList=decDigits m from rfl]
   exact wU m (by omega)
 rcases i1 with i1|⟨u,i1,hu⟩
 ·rw[show aR G.real TE.real s s.size 0 0=.ret (0,false) from i1,xp]
  exact⟨_,rfl,fun m hm e=>by have:=(ex m hm e).symm.trans i1;cases this⟩
 ·rw[show aR G.real TE.real s s.size 0 0=.out (u:Int) from i1,qo,eK,al]
  have hu2:∀m:Nat,m≤1000000000→s=st (itoa (m:Int))→u=m:=fun m hm e=>by
   have:=(ex m hm e).symm.trans i1
   injection this with this
   omega
  by_cases hb:(1000000000:Int)<u
  ·rw[if_pos hb]
   exact⟨_,rfl,fun m hm e=>by have:=hu2 m hm e;omega⟩
  ·rw[if_neg hb,uY (it (by omega)),ah,bL,al]
   split
   ·exact⟨_,rfl,fun m hm e=>by rw[hu2 m hm e]⟩
   ·rename_i hne
    exact⟨_,rfl,fun m hm e=>absurd (by rw[hu2 m hm e,e]) hne⟩
theorem vA {s:ByteArray} (hs:s.size≤281474976710656):cS G.real TE.real s=some (gi s):=by
 unfold cS
 rw[af hs]
theorem m8 {m:Nat} (h:m≤1000000000):gi (st (itoa (m:Int)))=((m:Int),true):=by
 unfold gi
 rw[show(st (itoa (m:Int))).data.toList=itoa (m:Int) from rfl,gH,yp (by omega)]
 dsimp only
 rw[if_pos ⟨by omega,by omega,by rw[gH];rfl⟩]
end Go.Vs
namespace Go.Vs
open Go.IntWalk Go.Lib
theorem qr {a b:List UInt8} (h:st a=st b):a=b:=by
 have:=congrArg (fun z:ByteArray=>z.data.toList) h
 simpa [st] using this
theorem zY (s:ByteArray):∀(n k:Nat),k+n=1440→∃o,bF G.real TE.real s n (k:Int)=some o∧(o=.out ()∨∃j:Int,o=.ret j∧0≤j∧j<1440)∧∀m:Nat,k≤m→m<1440→s=st (clk m)→o=.ret (m:Int)
 |0,k,h=>by
  rw[bF]
  exact⟨_,rfl,.inl rfl,fun m h1 h2=>by omega⟩
 |n+1,k,h=>by
  rw[bF,uo (by omega),ah,bL,al]
  by_cases he:st (clk k)=s
  ·rw[if_pos he]
   exact⟨_,rfl,.inr ⟨k,rfl,by omega,by omega⟩,fun m h1 h2 e=>by rw[zl (by omega) h2 (qr (he.trans e))]⟩
  ·rw[if_neg he,bU,w64 (by omega) (by omega),show(k:Int)+1=((k+1:Nat):Int) from rfl]
   obtain⟨o,o1,o2,o3⟩:=zY s n (k+1) (by omega)
   refine⟨o,o1,o2,fun m h1 h2 e=>o3 m ?_ h2 e⟩
   rcases Nat.lt_or_ge k m with h3|h3
   ·exact h3
   ·obtain rfl:k=m:=by omega
    exact absurd e.symm he
theorem rc_i (s:ByteArray):∃r,fk G.real TE.real s=some r∧ -1≤r∧r<1440∧∀m:Nat,m<1440→s=st (clk m)→r=(m:Int):=by
 unfold fk
 rw[dO,dP,ge,al]
 by_cases h5:(s.size:Int)=5
 ·rw[if_pos h5,show aO 0 1440=1440 from rfl,show(0:Int)=((0:Nat):Int) from rfl]
  obtain⟨o,o1,o2,o3⟩:=zY s 1440 0 (by omega)
  rw[o1,ah]
  rcases o2 with rfl|⟨j,rfl,j0,j1⟩
  ·rw[qo]
   exact⟨_,rfl,by decide,by decide,fun m hm e=>by have:=o3 m (by omega) hm e;cases this⟩
  ·rw[xp]
   refine⟨_,rfl,by omega,j1,fun m hm e=>?_⟩
   have:=o3 m (by omega) hm e
   injection this
 ·rw[if_neg h5]
  exact⟨_,rfl,by decide,by decide,fun m hm e=>absurd (by rw[e,am,kI];rfl) h5⟩
theorem yW:(List.range 1440).all (fun m=>decide (aS G.real TE.real (st (clk m)) 5 0 0=some ((m/60*100+m%60:Nat):Int)))=true:=by decide+kernel
theorem AU {m:Nat} (h:m<1440):aS G.real TE.real (st (clk m)) 5 0 0=some ((m/60*100+m%60:Nat):Int):=of_decide_eq_true (List.all_eq_true.1 yW m (List.mem_range.2 h))
theorem rf (s:ByteArray) (h:s.size=5):∀(n k:Nat) (v:Int),k+n=5→∃r,aS G.real TE.real s n (k:Int) v=some r
 |0,k,v,_=>⟨v,by rw[aS]⟩
 |n+1,k,v,hk=>by
  rw[aS,dO,al,bU,w64 (n:=(k:Int)+1) (by omega) (by omega),show(k:Int)+1=((k+1:Nat):Int) from rfl]
  split
  ·exact rf s h n (k+1) v (by omega)
  ·rw[af (by omega)]
   exact rf s h n (k+1) _ (by omega)
theorem Bs (s:ByteArray):∃r,f8 G.real TE.real s=some r∧ -1≤r∧r<1440∧∀m:Nat,m<1440→s=st (clk m)→r=(m:Int):=by
 unfold f8
 rw[dO,dP,ge,al]
 by_cases h5:(s.size:Int)=5
 ·obtain⟨y,hy⟩:=rf s (by omega) 5 0 0 (by omega)
  rw[if_pos h5,show aO 0 5=5 from rfl,show aS G.real TE.real s 5 0 0=some y from hy,ah,bc,hO,al]
  have hval:∀m:Nat,m<1440→s=st (clk m)→G.real.wrap .i64 (G.real.add (G.real.wrap .i64 (G.real.mul (G.real.wrap .i64 (G.real.quo y 100)) 60)) (G.real.rem y 100))=(m:Int):=fun m hm e=>by
   have:=AU hm
   rw[←e,show aS G.real TE.real s 5 0 0=some y from hy] at this
   injection this with this
   subst this
   rw[nX,kF,show((m/60*100+m%60:Nat):Int).tdiv 100=(((m/60*100+m%60)/100:Nat):Int) from rfl,show((m/60*100+m%60:Nat):Int).tmod 100=(((m/60*100+m%60)%100:Nat):Int) from rfl,jD,bU,w64 (n:=(((m/60*100+m%60)/100:Nat):Int)) (by omega) (by omega),w64 (n:=((((m/60*100+m%60)/100:Nat):Int)*60)) (by omega) (by omega),w64 (by omega) (by omega)]
   omega
  generalize G.real.wrap .i64 (G.real.add (G.real.wrap .i64 (G.real.mul (G.real.wrap .i64 (G.real.quo y 100)) 60)) (G.real.rem y 100))=z at hval
  by_cases hz:0≤z∧z≤1439
  ·rw[if_pos hz]
   obtain⟨j,rfl⟩:=Int.eq_ofNat_of_zero_le hz.1
   rw[ui (by omega),ah,bL,al]
   by_cases he:st (clk j)=s
   ·rw[if_pos he]
    exact⟨_,rfl,by omega,by omega,fun m hm e=>hval m hm e⟩
   ·rw[if_neg he]
    exact⟨_,rfl,by decide,by decide,fun m hm e=>absurd (by rw[e];have:=hval m hm e;rw[show j=m by omega]) he⟩
  ·rw[if_neg hz]
   exact⟨_,rfl,by decide,by decide,fun m hm e=>by have:=hval m hm e;omega⟩
 ·rw[if_neg h5]
  exact⟨_,rfl,by decide,by decide,fun m hm e=>absurd (by rw[e,am,kI];rfl) h5⟩
theorem uI (a b:List UInt8):(cut a b).1.length≤a.length∧(cut a b).2.1.length≤a.length:=by
 unfold cut
 split
 ·simp;omega
 ·simp
theorem yR {t:Int} (h:0≤t∧t≤100000):cut (tmT t) [32]=(itoa ((t.toNat/1440:Nat):Int),clk (t.toNat%1440),true):=by
 unfold tmT
 exact wv _ (fC (by omega) (by decide))
theorem AB (t:Int):tmT t≠[]:=by unfold tmT;simp
theorem pt_i {s:ByteArray} (hs:s.size≤4000000):∃r,e8 G.real TE.real s=some r∧∀t:Int,0≤t∧t≤100000→s=st (tmT t)→r=(t,true):=by
 have hl:s.data.toList.length=s.size:=dH s
 have hcl:=uI s.data.toList [32]
 unfold e8 ct
 rw[af (by omega),ah]
 dsimp only
 rw[show(ag:ByteArray).data.toList=[32] from rfl,vA (by show Array.size _≤_;simp;omega),ah]
 obtain⟨r3,c1,c2,c3,c4⟩:=rc_i ⟨(cut s.data.toList [32]).2.1.toArray⟩
 rw[c1,ah,bL,al]
 by_cases he:s=str_k0
 ·rw[if_pos he]
  exact⟨_,rfl,fun t ht e=>absurd (qr (e.symm.trans (he.trans (show str_k0=st [] from rfl)))) (AB t)⟩
 ·rw[if_neg he,BL,ah,bL,al]
  have key:∀t:Int,0≤t∧t≤100000→s=st (tmT t)→G.real.wrap .i64 (G.real.add (G.real.wrap .i64 (G.real.mul (gi ⟨(cut s.data.toList [32]).1.toArray⟩).1 1440)) r3)=t:=fun t ht e=>by
   have e1:cut s.data.toList [32]=(itoa ((t.toNat/1440:Nat):Int),clk (t.toNat%1440),true):=by
    rw[e];exact yR ht
   rw[e1] at c4 ⊢
   rw[c4 (t.toNat%1440) (by omega) rfl]
   rw[show gi ⟨(itoa ((t.toNat/1440:Nat):Int),clk (t.toNat%1440),true).1.toArray⟩=_ from m8 (m:=t.toNat/1440) (by omega)]
   show G.real.wrap .i64 (G.real.wrap .i64 (((t.toNat/1440:Nat):Int)*1440)+((t.toNat%1440:Nat):Int))=t
   rw[w64 (n:=((t.toNat/1440:Nat):Int)*1440) (by omega) (by omega),w64 (by omega) (by omega)]
   omega
  generalize G.real.wrap .i64 (G.real.add (G.real.wrap .i64 (G.real.mul (gi ⟨(cut s.data.toList [32]).1.toArray⟩).1 1440)) r3)=z at key
  split
  ·exact⟨_,rfl,fun t ht e=>by rw[key t ht e]⟩
  ·rename_i hne
   exact⟨_,rfl,fun t ht e=>absurd (by rw[key t ht e,e];unfold ftB;rw[if_pos ht]) hne⟩
theorem zD {t:Int} (h:0≤t∧t≤100000) (r:List UInt8):spl 32 (tmT t++32::r)=itoa ((t.toNat/1440:Nat):Int)::clk (t.toNat%1440)::spl 32 r:=by
 unfold tmT
 rw[List.append_assoc,List.cons_append,lF _ (fC (by omega) (by decide)),lF _ (yI (by omega))]
theorem xJ {t:Int} (h:0≤t∧t≤100000):spl 32 (tmT t)=[itoa ((t.toNat/1440:Nat):Int),clk (t.toNat%1440)]:=by
 unfold tmT
 rw[lF _ (fC (by omega) (by decide)),tK (yI (by omega))]
theorem vi {s:ByteArray} (hs:s.size≤4000000) {c:UInt8} {w:List UInt8} (h:w∈spl c s.data.toList):(st w).size≤4000000:=by
 have:=gU c _ _ _ h
 have hl:s.data.toList.length=s.size:=dH s
 rw[am]
 simp at this
 omega
theorem pt_s {s:ByteArray} (hs:s.size≤4000000):∃r,fg G.real TE.real s=some r∧∀t:Int,0≤t∧t≤100000→s=st (tmT t)→r=(t,true):=by
 unfold fg
 rw[show(32:Int)=((32:UInt8).toNat:Int) from rfl,xg hs,ah,dP,dO,al,fz rfl rfl,List.length_map]
 have ht2:∀t:Int,0≤t∧t≤100000→s=st (tmT t)→spl 32 s.data.toList=[itoa ((t.toNat/1440:Nat):Int),clk (t.toNat%1440)]:=fun t ht e=>by rw[e];exact xJ ht
 have hp:∀w∈spl 32 s.data.toList,(st w).size≤4000000:=fun w hw=>vi hs hw
 generalize spl 32 s.data.toList=q at ht2 hp
 by_cases h2:(q.length:Int)=2
 ·match q,h2 with
  |[a,b],_=>
   obtain⟨r1,a1,a2⟩:=y8 (hp a (by simp))
   obtain⟨r2,b1,b2,b3,b4⟩:=Bs (st b)
   rw[if_pos (by rfl),af (by simp),ay (x:=st a) rfl,a1,ah,af (by simp),ay (x:=st b) rfl,b1,ah]
   have key:∀t:Int,0≤t∧t≤100000→s=st (tmT t)→r1=(((t.toNat/1440:Nat):Int),true)∧r2=((t.toNat%1440:Nat):Int):=fun t ht e=>by
    have:=ht2 t ht e
    injection this with e1 this
    injection this with e2 _
    exact⟨a2 _ (by omega) (by rw[e1]),b4 _ (by omega) (by rw[e2])⟩
   cases h3:r1.2 with
   |false=>exact⟨_,rfl,fun t ht e=>by rw[(key t ht e).1] at h3;cases h3⟩
   |true=>
    rw[cK,eK,eK,eK,al,al,al]
    by_cases c1:r2<0
    ·rw[if_pos c1];exact⟨_,rfl,fun t ht e=>by have:=(key t ht e).2;omega⟩
    ·rw[if_neg c1]
     by_cases c2:100000<r1.1
     ·rw[if_pos c2];exact⟨_,rfl,fun t ht e=>by rw[(key t ht e).1] at c2;simp at c2;omega⟩
     ·rw[if_neg c2]
      have val:∀t:Int,0≤t∧t≤100000→s=st (tmT t)→G.real.wrap .i64 (G.real.add (G.real.wrap .i64 (G.real.mul r1.1 1440)) r2)=t:=fun t ht e=>by
       rw[(key t ht e).1,(key t ht e).2]
       show G.real.wrap .i64 (G.real.wrap .i64 (((t.toNat/1440:Nat):Int)*1440)+((t.toNat%1440:Nat):Int))=t
       rw[w64 (n:=((t.toNat/1440:Nat):Int)*1440) (by omega) (by omega),w64 (by omega) (by omega)]
       omega
      split
      ·rename_i c3
       exact⟨_,rfl,fun t ht e=>by rw[val t ht e] at c3;omega⟩
      ·exact⟨_,rfl,fun t ht e=>by rw[val t ht e]⟩
 ·rw[if_neg h2]
  exact⟨_,rfl,fun t ht e=>absurd (by rw[ht2 t ht e];rfl) h2⟩
end Go.Vs
namespace Go.Vs
open Go.IntWalk Go.Lib
def z0P:Scan:=⟨0,0,0,.empty,⟨0,0⟩⟩
structure Rd (n:Network) (s:ByteArray) (r:Scan×Bool):Prop where
 yes:r.2=true→scB n r.1=true∧fsB n r.1=s
 no:r.2=false→r.1=z0P
 all:∀x:Scan,scB n x=true→s=st (scT x)→r=(x,true)
theorem y9 {n:Network} {s:ByteArray} {a b:Scan×Bool} (ha:Rd n s a) (hb:Rd n s b):a=b:=by
 have key:∀{a b:Scan×Bool},Rd n s a→Rd n s b→a.2=true→b=a:=fun{a b} ha hb h=>by
  obtain⟨h1,h2⟩:=ha.yes h
  have:=hb.all a.1 h1 (by rw[←h2];unfold fsB;rw[if_pos h1])
  rw[this]
  obtain⟨x,y⟩:=a
  cases h;rfl
 cases h1:a.2 with
 |true=>exact(key ha hb h1).symm
 |false=>
  cases h2:b.2 with
  |true=>exact key hb ha h2
  |false=>
   have e1:=ha.no h1
   have e2:=hb.no h2
   obtain⟨x,y⟩:=a
   obtain⟨x2,y2⟩:=b
   cases h1;cases h2;cases e1;cases e2;rfl
theorem Al (k:Int):(32:UInt8)∉wrd k:=by
 unfold wrd
 split
 ·decide
 ·split
  ·decide
  ·split<;>decide
theorem z4 {n:Network} (ht:n.tot≤1048576) {s:Scan} (h:ScOk n s):(32:UInt8)∉whr s:=by
 unfold whr
 split
 ·rename_i k
  have hl:=je ht h k
  intro hm
  rcases List.mem_append.1 hm with hm|hm
  ·exact fC (by omega) (by decide) hm
  ·rcases List.mem_cons.1 hm with hm|hm
   ·exact absurd hm (by decide)
   ·exact fC (by omega) (by decide) hm
 ·rename_i k
  have hp:=h.at_ (by have:=h.kind;omega)
  intro hm
  have:=(lC (fu ht h.net) hp.1).2 _ hm
  simp at this
theorem uC {n:Network} (ht:n.tot≤1048576) {s:Scan} (h:ScOk n s):spl 32 (scT s)=[itoa ((s.At.toNat/1440:Nat):Int),clk (s.At.toNat%1440),itoa s.Thing,wrd s.Kind,whr s]:=by
 unfold scT
 rw[zD h.time,lF _ (fC (by have:=h.thing;omega) (by decide)),lF _ (Al _),tK (z4 ht h)]
theorem wW (t:Int):itoa ((t.toNat/1440:Nat):Int)++[32]++clk (t.toNat%1440)=tmT t:=by unfold tmT;simp
def kdl (w:ByteArray) (v:Int):Int:=if st (wrd 4)=w then 4 else if st (wrd 3)=w then 3 else if st (wrd 2)=w then 2 else if st (wrd 1)=w then 1 else v
theorem yn {k:Int} (h:1≤k∧k≤4):kdl (st (wrd k)) 0=k:=by
 have:k=1∨k=2∨k=3∨k=4:=by omega
 rcases this with rfl|rfl|rfl|rfl<;>decide
theorem kd_i {x:List ByteArray} {w:ByteArray} (hx:x[3]?=some w):aU G.real TE.real x (dn 1 4) 1 0=some (kdl w 0):=by
 have hl:3<x.length:=(List.getElem?_eq_some_iff.1 hx).1
 have de:∀(m:Nat) (k v:Int),1≤k∧k≤4→aU G.real TE.real x (m+1) k v=aU G.real TE.real x m (k+1) (if st (wrd k)=w then k else v):=fun m k v hk=>by
  rw[aU,zO hk,ah,fz rfl rfl,af (by omega),show G.real.nat 3=3 from rfl,ay hx,bL,al,bU,w64 (by omega) (by omega)]
  split<;>rfl
 rw[show dn 1 4=3+1 from rfl,de _ _ _ (by decide),show(3:Nat)=2+1 from rfl,de _ _ _ (by decide),show(2:Nat)=1+1 from rfl,de _ _ _ (by decide),show(1:Nat)=0+1 from rfl,de _ _ _ (by decide),aU]
 rfl
theorem kd_s {x:List ByteArray} {w:ByteArray} (hx:x[3]?=some w):aV G.real TE.real x (dn 1 4) 1 0=some (kdl w 0):=by
 have hl:3<x.length:=(List.getElem?_eq_some_iff.1 hx).1
 have de:∀(m:Nat) (k v:Int),1≤k∧k≤4→aV G.real TE.real x (m+1) k v=aV G.real TE.real x m (k+1) (if st (wrd k)=w then k else v):=fun m k v hk=>by
  rw[aV,zR,bc,fz rfl rfl,af (by omega),show G.real.nat 3=3 from rfl,ay hx,bL,al,bU,w64 (by omega) (by omega)]
  split<;>rfl
 rw[show dn 1 4=3+1 from rfl,de _ _ _ (by decide),show(3:Nat)=2+1 from rfl,de _ _ _ (by decide),show(2:Nat)=1+1 from rfl,de _ _ _ (by decide),show(1:Nat)=0+1 from rfl,de _ _ _ (by decide),aV]
 rfl
theorem ni {n:Network} {s:ByteArray} (hs:s≠st []) {z:Scan} (hz:∀x:Scan,scB n x=true→s=st (scT x)→z=x):
 ∃r,(if fsB n z=s then some (z,true) else some (z0P,false))=some r∧Rd n s r:=by
 by_cases h:fsB n z=s
 ·rw[if_pos h]
  refine⟨_,rfl,fun _=>⟨?_,h⟩,(fun h=>by cases h),fun x hx e=>by rw[hz x hx e]⟩
  cases hb:scB n z with
  |true=>rfl
  |false=>unfold fsB at h;rw[hb,if_neg (by simp)] at h;exact absurd h.symm hs
 ·rw[if_neg h]
  exact⟨_,rfl,(fun h=>by cases h),fun _=>rfl,fun x hx e=>absurd (by rw[hz x hx e,e];unfold fsB;rw[if_pos hx]) h⟩
theorem j5 {n:Network} {s:ByteArray} (h:∀x:Scan,scB n x=true→s≠st (scT x)):Rd n s (z0P,false):=
 ⟨(fun h=>by cases h),fun _=>rfl,fun x hx e=>absurd e (h x hx)⟩
theorem om {s:Scan} (hk:s.Kind=3∨s.Kind=2):whr s=itoa s.Trip.Leg++47::itoa s.Trip.Day:=by unfold whr;rw[if_pos hk]
theorem re {s:Scan} (hk:¬(s.Kind=3∨s.Kind=2)):whr s=s.Place.data.toList:=by unfold whr;rw[if_neg hk]
theorem mZ {a b:Scan} (h1:a.Thing=b.Thing) (h2:a.At=b.At) (h3:a.Kind=b.Kind) (h4:a.Place=b.Place) (h5:a.Trip.Leg=b.Trip.Leg) (h6:a.Trip.Day=b.Trip.Day):a=b:=by
 obtain⟨_,_,_,_,⟨_,_⟩⟩:=a
 obtain⟨_,_,_,_,⟨_,_⟩⟩:=b
 simp only at h1 h2 h3 h4 h5 h6
 subst h1 h2 h3 h4 h5 h6
 rfl
theorem Br {n:Network} (ht:n.tot≤1048576) {s:ByteArray} (hs:s.size≤1048576):∃r,eh G.real TE.real n s=some r∧Rd n s r:=by
 unfold eh fq
 rw[show ag=st [32] from rfl,af ⟨by omega,by rw[am];decide⟩,tc,ah,dP,dO,al,fz rfl rfl,List.length_map]
 have hq:∀x:Scan,scB n x=true→s=st (scT x)→spl 32 s.data.toList=[itoa ((x.At.toNat/1440:Nat):Int),clk (x.At.toNat%1440),itoa x.Thing,wrd x.Kind,whr x]:=fun x hx e=>by rw[e];exact uC ht (fv hx)
 have hp:∀w∈spl 32 s.data.toList,(st w).size≤1048576:=fun w hw=>by
  have:=gU 32 _ _ _ hw
  have hl:s.data.toList.length=s.size:=dH s
  rw[am];simp at this;omega
 have hne:s=st []→(spl 32 s.data.toList).length≠5:=fun e=>by rw[e];decide
 generalize spl 32 s.data.toList=q at hq hp hne
 by_cases h5:(q.length:Int)=5
 ·have hs0:s≠st []:=fun e=>hne e (by omega)
  match q,h5 with
  |[a,b,c,d,e],_=>
   have ha:=hp a (by simp)
   have hb:=hp b (by simp)
   have hc:=hp c (by simp)
   have he:=hp e (by simp)
   simp only[am] at ha hb hc he
   obtain⟨t,t1,t2⟩:=pt_i (s:=st (a++[32]++b)) (by simp only[am,List.length_append,List.length_singleton];omega)
   rw[if_pos (show(([a,b,c,d,e].length:Nat):Int)=5 from rfl)]
   simp only[List.map_cons,List.map_nil,List.length_cons,List.length_nil]
   rw[af (by decide),ay (x:=st a) rfl,af (by simp only[am,List.length_singleton];omega),af (by decide),ay (x:=st b) rfl,cW,af (by simp only[am,List.length_append,List.length_singleton];omega),cW,t1,ah,af (by decide),ay (x:=st c) rfl,vA (by rw[am];omega),ah,kd_i (w:=st d) rfl,ah,dO,dO,al,al]
   have hx:∀x:Scan,scB n x=true→s=st (scT x)→t=(x.At,true)∧gi (st c)=(x.Thing,true)∧kdl (st d) 0=x.Kind∧e=whr x:=fun x hx e1=>by
    have hk:=fv hx
    have:=hq x hx e1
    simp only[List.cons.injEq,and_true] at this
    obtain⟨rfl,rfl,rfl,rfl,rfl⟩:=this
    refine⟨t2 x.At hk.time (by rw[wW]),?_,yn (by have:=hk.kind;omega),rfl⟩
    have h1:=hk.thing
    have:=m8 (m:=x.Thing.toNat) (by omega)
    rwa [show((x.Thing.toNat:Nat):Int)=x.Thing by omega] at this
   have trip:∀(f:Int→Int→Scan),(∀l d',f l d'=⟨(gi (st c)).1,t.1,kdl (st d) 0,ByteArray.empty,⟨l,d'⟩⟩)→(kdl (st d) 0=3∨kdl (st d) 0=2)→
    ∀x:Scan,scB n x=true→s=st (scT x)→f (gi ⟨(cut e [47]).1.toArray⟩).1 (gi ⟨(cut e [47]).2.1.toArray⟩).1=x:=fun f hf k x hx1 e1=>by
    obtain⟨g1,g2,g3,g4⟩:=hx x hx1 e1
    have hk:=fv hx1
    have kk:x.Kind=3∨x.Kind=2:=by rw[←g3];exact k
    have hl:=je ht hk kk
    rw[g4,om kk,wv _ (fC (by omega) (by decide)),hf]
    have p1:=m8 (m:=x.Trip.Leg.toNat) (by omega)
    have p2:=m8 (m:=x.Trip.Day.toNat) (by omega)
    rw[show((x.Trip.Leg.toNat:Nat):Int)=x.Trip.Leg by omega] at p1
    rw[show((x.Trip.Day.toNat:Nat):Int)=x.Trip.Day by omega] at p2
    refine mZ (by rw[g2]) (by rw[g1]) g3 ?_ ?_ ?_
    ·rcases kk with kk|kk
     ·exact(hk.load kk).1.symm
     ·exact(hk.drop kk).1.symm
    ·show(gi (st (itoa x.Trip.Leg))).1=_
     rw[p1]
    ·show(gi (st (itoa x.Trip.Day))).1=_
     rw[p2]
   have hce:=uI e [47]
   by_cases k3:kdl (st d) 0=3
   ·rw[if_pos k3,af (by decide),ay (x:=st e) rfl]
    unfold ct
    rw[af (by rw[am];omega),ah,show(bk:ByteArray).data.toList=[47] from rfl,show(st e).data.toList=e from rfl]
    dsimp only
    rw[vA (by show Array.size _≤_;simp;omega),ah,vA (by show Array.size _≤_;simp;omega),ah,zn ht,ah,bL,al]
    exact ni hs0 (trip (fun l d'=>⟨(gi (st c)).1,t.1,kdl (st d) 0,ByteArray.empty,⟨l,d'⟩⟩) (fun _ _=>rfl) (.inl k3))
   ·rw[if_neg k3]
    by_cases k2:kdl (st d) 0=2
    ·rw[if_pos k2,af (by decide),ay (x:=st e) rfl]
     unfold ct
     rw[af (by rw[am];omega),ah,show(bk:ByteArray).data.toList=[47] from rfl,show(st e).data.toList=e from rfl]
     dsimp only
     rw[vA (by show Array.size _≤_;simp;omega),ah,vA (by show Array.size _≤_;simp;omega),ah,zn ht,ah,bL,al]
     exact ni hs0 (trip (fun l d'=>⟨(gi (st c)).1,t.1,kdl (st d) 0,ByteArray.empty,⟨l,d'⟩⟩) (fun _ _=>rfl) (.inr k2))
    ·rw[if_neg k2,af (by decide),ay (x:=st e) rfl,zn ht,ah,bL,al]
     refine ni hs0 fun x hx1 e1=>?_
     obtain⟨g1,g2,g3,g4⟩:=hx x hx1 e1
     have hk:=fv hx1
     have kk:¬(x.Kind=3∨x.Kind=2):=by rw[←g3];exact fun h=>h.elim k3 k2
     have ha:=hk.at_ (by have:=hk.kind;omega)
     refine mZ (by rw[g2]) (by rw[g1]) g3 ?_ ha.2.1.symm ha.2.2.symm
     show st e=x.Place
     rw[g4,re kk,mV]
 ·rw[if_neg h5]
  exact⟨_,rfl,j5 fun x hx e=>h5 (by rw[hq x hx e];rfl)⟩
end Go.Vs
