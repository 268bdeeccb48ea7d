/- A part. -/
import Derived.Test.YtnfbaclikokapaaGreatYt
import Derived.Test.YtnfbaclikokapaaGreatDk
import Derived.Test.YtnfbaclikokapaaGreatOa
set_option linter.unusedSimpArgs false
set_option linter.unusedVariables false
set_option maxHeartbeats 4000000
set_option maxRecDepth 100000
open Go.Proofs.Tryz
namespace Go.Proofs.YtnfbaclikokapaaGreat
open Go.Proofs Go.Shelf Go.RowKit Go.Lib Go.Sort
theorem Jz {w:World} {blk off:Nat} {d:Array DVal} (h:HoldsK DT 3 w blk off d) {i:Nat} (hi:i<d.size) :
  w.cell? ⟨blk,off+i*3,none⟩=some (.int .i64 d[i]!.ty)∧w.cell? ⟨blk,off+i*3+1,none⟩=some (.int .i64 d[i]!.n)∧w.cell? ⟨blk,off+i*3+2,none⟩=some (.string d[i]!.s):=
 ⟨(HoldsK.cell h hi (show 0<3 by omega)).1,(HoldsK.cell h hi (show 1<3 by omega)).1,(HoldsK.cell h hi (show 2<3 by omega)).1⟩
theorem jd {w:World} {blk off:Nat} {d:Array DVal} (h:HoldsK DT 3 w blk off d) {i:Nat} (hi:i<d.size) :
  w.frozen? ⟨blk,off+i*3,none⟩=false∧w.frozen? ⟨blk,off+i*3+1,none⟩=false∧w.frozen? ⟨blk,off+i*3+2,none⟩=false:=
 ⟨(HoldsK.cell h hi (show 0<3 by omega)).2,(HoldsK.cell h hi (show 1<3 by omega)).2,(HoldsK.cell h hi (show 2<3 by omega)).2⟩
theorem pJ (d:Array DVal) (i:Nat) (hi:i<d.size) (x:DVal):setMany (flatK DT 3 d) (i*3) (DT x)=flatK DT 3 (d.setIfInBounds i x):=by
 refine ext_get! (by simp) fun t ht=>?_
 have ht':t<d.size*3:=by simpa using ht
 rw[get_setMany _ _ _ t (by simpa using ht'),get_flatK _ _ d t ht',get_flatK _ _ (d.setIfInBounds i x) t (by simpa using ht')]
 show (if i*3≤t∧t<i*3+3 then _ else _)=_
 by_cases e:t/3=i
 ·rw[if_pos (by omega)]
  subst e
  rw[getElem!_set_same _ _ _ hi,show t-t/3*3=t%3 by omega]
 ·rw[if_neg (by omega)]
  congr 2
  have hlt:t/3<d.size:=by omega
  simp[Array.getElem!_eq_getD,Array.getD,Array.getElem_setIfInBounds,Ne.symm e,hlt]
theorem pK {w wr:World} {q blk off:Nat} {dk:Array DVal} (hwr:wr=putRowK DT 3 (Sort.ahead w q) blk off dk) {i:Nat} (hi:i<dk.size) (x:DVal) :
  (wr.setCells blk (off+i*3) (DT x)).drew=putRowK DT 3 (Sort.ahead w (q+1)) blk off (dk.setIfInBounds i x):=by
 rw[hwr]
 unfold putRowK
 rw[setCells_putRow _ _ _ _ _ _ (by simp[DT]; omega),pJ dk i hi x]
 rfl
theorem zN {w:World} {blk off:Nat} {dk:Array DVal} (h:HoldsK DT 3 w blk off dk) {i n c:Nat} {ty:TypeId} (hi:i+n=dk.size) (hn:0<n) :
  ∃ zs:List Value,zs.length=n*3∧(Builtin.clear_ #[54] ty #[.slice (some ⟨blk,off+i*3,none⟩) n c]).run prog w = .ok (.tuple #[]) (w.setCells blk (off+i*3) zs):=by
 refine⟨(Builtin.zeroCells #[.int .i64 0,.int .i64 0,.string ⟨#[]⟩] n).toList,by simp[Builtin.zeroCells], ?_⟩
 have hst:=stores_of_holds prog h (i*3) (Builtin.zeroCells #[.int .i64 0,.int .i64 0,.string ⟨#[]⟩] n).toList (by simp[Builtin.zeroCells,size_flatK]; omega) (by
  intro v hv
  simp only[Builtin.zeroCells,Array.toList_map,List.mem_map] at hv
  obtain⟨t,_,rfl⟩:=hv
  have h3:t%3<3:=Nat.mod_lt _ (by omega)
  show (#[Value.int .i64 0,Value.int .i64 0,Value.string ⟨#[]⟩][t%3]!).oneCell'=true
  rcases(show t%3=0∨t%3=1∨t%3=2 by omega) with e | e | e<;>rw[e]<;>rfl)
 obtain⟨m,rfl⟩:∃ m,n=m+1:=⟨n-1,by omega⟩
 have hz:=zeroValue68
 simp[Builtin.clear_,run_underlying underlying54,hz,Value.cells,hst]
theorem je (blk off cap:Nat) (d:Array DVal) (w:World) (hH:HoldsK DT 3 w blk off d) (hsz:d.size≤1048576) (hcap:d.size≤cap) :
  Calls prog 337 #[.slice (some ⟨blk,off,none⟩) d.size cap] w fun e w'=>e = .returned (.slice (some ⟨blk,off,none⟩) (compactUpTo d d.size).length cap)∧∃ q F,w'=putRow id (Sort.ahead w q) blk off F∧F.size=d.size*3∧∀ j,j<(compactUpTo d d.size).length→∀ c,c<3→F[j*3+c]! = (DT (compactUpTo d d.size)[j]!)[c]!:=by
 have same:∀ q,(∀ j,j<d.size→keeps d j=true)→(compactUpTo d d.size).length=d.size∧∃ F,w.drewN q=putRow id (Sort.ahead w q) blk off F∧F.size=d.size*3∧∀ j,j<(compactUpTo d d.size).length→∀ c,c<3→F[j*3+c]! = (DT (compactUpTo d d.size)[j]!)[c]!:=by
  intro q hall
  have e:compactUpTo d d.size=d.toList:=by rw[compactUpTo_all d _ hall,range_map_get]
  rw[e]
  refine⟨by simp,flatK DT 3 d,(putRow_self id (Sort.ahead w q) blk off _ (holds_ahead id w q blk off _ hH)).symm,by simp,fun j hj c hc=>?_⟩
  have hj':j<d.size:=by simpa using hj
  rw[get_flatK _ _ _ _ (by omega),show (j*3+c)/3=j by omega,show (j*3+c)%3=c by omega]
  congr 2
  simp[hj']
 have HS:Aside _:=same
 clear same
 have mixed:prog.follows .mixedOrders=true:=by kernel_rfl
 have aE:=isAgg68
 have zE:=sizeOf68
 by_cases h2:d.size<2
 ·have HH:Aside _:=hH
  clear hH
  go_enter func337,ntmps337
  go_wp2
  go_ret
  obtain⟨e1,F,e2,e3,e4⟩:=HS.out 0 (fun j hj=>keeps_lt_one d j (by omega))
  exact⟨by rw[e1]; rfl,0,F,e2,e3,e4⟩
 ·go_enter func337,ntmps337
  go_wp2
  go_loopg [3] d.size (fun g s3 wr=>∃ k q:Nat,1≤k∧k≤d.size∧d.size-k≤g∧s3 = .int .i64 k∧wr=w.drewN q∧∀ j,j<k→keeps d j=true)
  case atStart=>exact⟨1,0,Nat.le_refl _,by omega,by omega,rfl,rfl,keeps_lt_one d⟩
  case round =>
   obtain⟨k,q,hk1,hk,hg,rfl,rfl,hall⟩:=hrel
   by_cases hlt:k<d.size
   ·obtain⟨c10,c11,c12⟩:=Jz hH hlt
    obtain⟨c00,c01,c02⟩:=Jz hH (show k-1<d.size by omega)
    have A:Aside (∀ j,j<k→keeps d j=true):=hall
    have HH:Aside _:=hH
    clear hall hH
    generalize hx:d[k]! = x at c10 c11 c12
    generalize hy:d[k-1]! = y at c00 c01 c02
    have B:Aside (d[k]! = x∧d[k-1]! = y):=⟨hx,hy⟩
    clear hx hy
    have hgd:=fun(op:BinOp) (a b:Operand) (w:World)=>ADH op a b x y w
    have heq:=fun(w:World)=>AIF x y w
    by_cases hdup:x=y
    ·subst hdup
     simp only[decide_true] at heq
     obtain⟨xt,xn,xs⟩:=x
     simp only[DT] at hgd heq
     go_wp2_with fail
     go_region_o
     go_wp2
     clear c10 c11 c12 c00 c01 c02 hgd heq
     go_loopg [3,5] d.size (fun g s3 s5 wr=>∃ (kk k2 q2:Nat) (dk:Array DVal),s3 = .int .i64 kk∧s5 = .int .i64 k2∧1≤k2∧k+k2≤d.size∧d.size-(k+k2)≤g∧wr=putRowK DT 3 (Sort.ahead w q2) blk off dk∧CompInv d (k+k2) kk dk)
     case atStart=>exact⟨k,1,q+1,d,rfl,rfl,Nat.le_refl _,by omega,by omega,(putRowK_self DT 3 (Sort.ahead w (q+1)) blk off d (holdsK_ahead DT 3 w (q+1) blk off d HH.out)).symm,CompInv.start A.out (keeps_neg (by omega) (by rw[B.out.1,B.out.2]))⟩
     case round =>
      obtain⟨kk,k2,q2,dk,rfl,rfl,h1,hle,hg2,hwr,hI⟩:=hrel
      have hkk:=hI.lt
      have hds:=hI.size
      have hHk:HoldsK DT 3 wr blk off dk:=by rw[hwr]; exact holdsK_putRowK DT 3 _ blk off d dk (holdsK_ahead DT 3 w q2 blk off d HH.out) hds
      have W2:Aside (wr=putRowK DT 3 (Sort.ahead w q2) blk off dk):=hwr
      have I2:Aside (CompInv d (k+k2) kk dk):=hI
      clear hwr
      by_cases hlt2:k+k2<d.size
      ·obtain⟨m0,m1,m2⟩:=Jz hHk (show k+k2<dk.size by omega)
       obtain⟨p0,p1,p2⟩:=Jz hHk (show k+k2-1<dk.size by omega)
       obtain⟨k0,k1,k3⟩:=Jz hHk (show kk<dk.size by omega)
       obtain⟨f0,f1,f2⟩:=jd hHk (show kk<dk.size by omega)
       rw[hI.high (k+k2) (by omega),show off+(k+k2)*3=off+k*3+k2*3 by omega] at m0 m1 m2
       rw[hI.high (k+k2-1) (by omega),show off+(k+k2-1)*3=off+k*3+(k2-1)*3 by omega] at p0 p1 p2
       clear hI
       have HHk:Aside _:=hHk
       clear hHk
       generalize hu:d[k+k2]! = u at m0 m1 m2
       generalize hv:d[k+k2-1]! = v at p0 p1 p2
       generalize dk[kk]! = old at k0 k1 k3
       have C:Aside (d[k+k2]! = u∧d[k+k2-1]! = v):=⟨hu,hv⟩
       clear hu hv
       have hgd:=fun(op:BinOp) (a b:Operand) (w:World)=>ADH op a b u v w
       have hne:=fun(w:World)=>AIG u v w
       by_cases huv:u=v
       ·subst huv
        simp only[decide_true] at hne
        obtain⟨ut,un,us⟩:=u
        simp only[DT] at hgd hne
        go_wp2_with fail
        go_region_o
        go_wp2
        go_roundg (d.size-(k+(k2+1)))
        case measure=>omega
        case rel=>exact⟨kk,k2+1,q2+1,dk,rfl,by go_num,by omega,by omega,Nat.le_refl _,by rw[W2.out]; rfl,I2.out.skip (keeps_neg (by omega) (by rw[C.out.1,C.out.2]))⟩
       ·simp only[huv,decide_false] at hne
        have CC:Aside (u≠v):=huv
        clear huv
        have hst:=pK W2.out (show kk<dk.size by omega) u
        have HST:Aside _:=hst
        clear hst
        obtain⟨ut,un,us⟩:=u
        obtain⟨vt,vn,vs⟩:=v
        simp only[DT] at hgd hne
        go_wp2_with fail
        go_region_o
        go_wp2
        go_roundg (d.size-(k+(k2+1)))
        case measure=>omega
        case rel=>exact⟨kk+1,k2+1,q2+1,dk.setIfInBounds kk ⟨ut,un,us⟩,by go_num,by go_num,by omega,by omega,Nat.le_refl _,HST.out,by have:=I2.out.keep hlt2 (keeps_pos (by rw[C.out.1,C.out.2]; exact CC.out)); rwa [C.out.1] at this⟩
      ·have hend:k+k2=d.size:=by omega
       have HHk:Aside _:=hHk
       have hcl:=fun ty=>zN (ty:=ty) (c:=cap-kk) hHk (show kk+(d.size-kk)=dk.size by omega) (by omega)
       clear hHk hI
       obtain⟨zs,hz1,hz2⟩:∃ zs:List Value,zs.length=(d.size-kk)*3∧∀ ty,(Builtin.clear_ #[54] ty #[.slice (some ⟨blk,off+kk*3,none⟩) (d.size-kk) (cap-kk)]).run prog wr = .ok (.tuple #[]) (wr.setCells blk (off+kk*3) zs):=by
        obtain⟨zs,q1,q2⟩:=hcl 0
        exact⟨zs,q1,fun _=>q2⟩
       clear hcl
       go_wp2
       go_ret
       have hI:=I2.out
       rw[hend] at hI
       refine⟨by rw[hI.len]; rfl,q2,setMany (flatK DT 3 dk) (kk*3) zs, ?_,by simp[hds],fun j hj c hc=>?_⟩
       ·rw[W2.out]
        unfold putRowK
        exact setCells_putRow _ _ _ _ _ _ (by simp[hz1,hds]; omega)
       ·rw[hI.len] at hj
        rw[get_setMany _ _ _ _ (by simp[hds]; omega),if_neg (by omega),get_flatK _ _ _ _ (by omega),show (j*3+c)/3=j by omega,show (j*3+c)%3=c by omega]
        have:=hI.low j hj
        rw[getElem!_pos (compactUpTo d d.size) j (by rw[hI.len]; exact hj)]
        rw[List.getElem?_eq_getElem (by rw[hI.len]; exact hj)] at this
        rw[Option.some.inj this]
    ·simp only[hdup,decide_false] at heq
     have BB:Aside (x≠y∧d[k]! = x∧d[k-1]! = y):=⟨hdup,B.out⟩
     clear hdup B
     obtain⟨xt,xn,xs⟩:=x
     obtain⟨yt,yn,ys⟩:=y
     simp only[DT] at hgd heq
     go_wp2_with fail
     go_region_o
     go_wp2
     go_roundg (d.size-(k+1))
     case measure=>omega
     case rel =>
      refine⟨k+1,q+1,by omega,by omega,Nat.le_refl _,by go_num,rfl,fun j hj=>?_⟩
      by_cases e:j=k
      ·subst e
       exact keeps_pos (by rw[BB.out.2.1,BB.out.2.2]; exact BB.out.1)
      ·exact A.out j (by omega)
   ·have:k=d.size:=by omega
    subst this
    have HH:Aside _:=hH
    clear hH
    go_wp2
    go_ret
    obtain⟨e1,F,e2,e3,e4⟩:=HS.out q hall
    exact⟨by rw[e1]; rfl,q,F,e2,e3,e4⟩
open Go.Vm
theorem YY (k:IntKind) (a b:Nat) (ha:a<2 ^ k.bits) (hb:b<2 ^ k.bits):X7 k (a:Int) (b:Int)=((a &&& b:Nat):Int):=by
 unfold X7
 rw[BitVec.ofInt_natCast,BitVec.ofInt_natCast,BitVec.toNat_and,BitVec.toNat_ofNat,BitVec.toNat_ofNat,abE ha,abE hb]
theorem ADB (k:IntKind) (a b:Nat) (ha:a<2 ^ k.bits) (hb:b<2 ^ k.bits):orK k (a:Int) (b:Int)=((a ||| b:Nat):Int):=by
 unfold orK
 rw[BitVec.ofInt_natCast,BitVec.ofInt_natCast,BitVec.toNat_or,BitVec.toNat_ofNat,BitVec.toNat_ofNat,abE ha,abE hb]
theorem w_ {x:Int} (h0:0≤x) (h1:x<9223372036854775808):X7 .i64 x 127=x%128:=by
 obtain⟨n,rfl⟩:=aP h0
 have:=YY .i64 n 127 (show n<18446744073709551616 by omega) (by decide)
 rw[show ((127:Nat):Int)=127 from rfl] at this
 rw[this,show (127:Nat)=2 ^ 7-1 from rfl,Nat.and_two_pow_sub_one_eq_mod]
 omega
theorem AD3 {x:Int} (h0:0≤x) (h1:x<9223372036854775808):X7 .i64 x 1=x%2:=by
 obtain⟨n,rfl⟩:=aP h0
 have:=YY .i64 n 1 (show n<18446744073709551616 by omega) (by decide)
 rw[show ((1:Nat):Int)=1 from rfl] at this
 rw[this,Nat.and_one_is_mod]
 omega
theorem AE0 {x:Int} (h0:0≤x) (h1:x<256):X7 .u8 x 1=x%2:=by
 obtain⟨n,rfl⟩:=aP h0
 have:=YY .u8 n 1 (show n<256 by omega) (by decide)
 rw[show ((1:Nat):Int)=1 from rfl] at this
 rw[this,Nat.and_one_is_mod]
 omega
theorem YZ (k:IntKind) {x y:Int} {s:Nat} (h0:0≤x) (h1:x<2 ^ s) (hy:0≤y) (hb:x+y*2 ^ s<2 ^ k.bits):orK k x (y*2 ^ s)=x+y*2 ^ s:=by
 obtain⟨n,rfl⟩:=aP h0
 obtain⟨m,rfl⟩:=aP hy
 have e:(m:Int)*2 ^ s=((m*2 ^ s:Nat):Int):=by push_cast; rfl
 have h1':n<2 ^ s:=by exact_mod_cast h1
 have hb':n+m*2 ^ s<2 ^ k.bits:=by rw[e] at hb; exact_mod_cast hb
 rw[e,ADB k n (m*2 ^ s) (by omega) (by omega),Nat.or_comm,Nat.mul_comm m,← Nat.two_pow_add_eq_or_of_lt h1' m]
 omega
theorem wrap_u8 {n:Int} (h:0≤n) (h2:n<256):IntKind.u8.wrap n=n:=JW (by
 simp only[Lit.wf,ak,bf]
 simp[IntKind.min,IntKind.max,IntKind.bits,IntKind.signed]
 omega)
@[go_sem] theorem AIO:((2:Int)=0)=False:=by simp
@[go_sem] theorem AIP:((8:Int)=0)=False:=by simp
@[go_sem] theorem AIE:((128:Int)=0)=False:=by simp
@[go_sem] theorem AHm (n:Nat):(((n:Int))<0)=False:=by simp
theorem NI (i:Nat):(128:Int) ^ i=2 ^ (7*i):=by rw[Int.pow_mul]; rfl
def Wh (n:Int):Int:=if DX n=true then zig n else 0
theorem Ql {n:Int}:DX n=true↔ -1000000000≤n∧n≤1000000000:=by simp[DX,Ac]
theorem jf (n:Int):Ctr prog 329 [.c (.v (.int .i64 (n)))] [.val (.c (.v (.int .i64 (Wh n))))]:=by
 refine CM call329 func329 ntmps329 results329 fun hw=>?_
 simp only[go_sem]
 refine CallK.mk _ (Iu _) fun _=>?_
 rcases h:DX n with _ | _
 ·simp only[go_sem,h,Wh]
 ·have hb:=Ql.1 h
  simp only[go_sem,h]
  refine cndC.mk (fun h1=>?_) (fun h1=>?_)
  ·have h1':n<0:=by simpa using h1
   simp only[go_sem]
   rw[wrap_i64 (n:=-2*n) (by omega) (by omega),wrap_i64 (n:=-2*n-1) (by omega) (by omega)]
   simp only[Wh,h,bD,zig,bz h1']
  ·have h1':¬ n<0:=by simpa using h1
   simp only[go_sem]
   rw[wrap_i64 (n:=2*n) (by omega) (by omega)]
   simp only[Wh,h,bD,zig,aV h1']
theorem jg (n:Int):Ctr prog 305 [.c (.v (.int .i64 (n)))] [.val (.c (.v (.int .i64 (Wh n))))]:=by
 refine CM call305 func305 ntmps305 results305 fun hw=>?_
 simp only[go_sem]
 refine CallK.mk _ (LX _) fun _=>?_
 rcases h:DX n with _ | _
 ·simp only[go_sem,h,Wh]
 ·have hb:=Ql.1 h
  simp only[go_sem,h]
  refine cndC.mk (fun h1=>?_) (fun h1=>?_)
  ·have h1':n<0:=by simpa using h1
   simp only[go_sem]
   rw[wrap_i64 (n:=-2*n) (by omega) (by omega),wrap_i64 (n:=-2*n-1) (by omega) (by omega)]
   simp only[Wh,h,bD,zig,bz h1']
  ·have h1':¬ n<0:=by simpa using h1
   simp only[go_sem]
   rw[wrap_i64 (n:=2*n) (by omega) (by omega)]
   simp only[Wh,h,bD,zig,aV h1']
def Wi (n:Int):Int:=if Ac n 0 2000000000=true then zag n else 0
theorem jh (n:Int):Ctr prog 260 [.c (.v (.int .i64 (n)))] [.val (.c (.v (.int .i64 (Wi n))))]:=by
 refine CM call260 func260 ntmps260 results260 fun hw=>?_
 simp only[go_sem]
 refine CallK.mk _ (AL _ _ _) fun _=>?_
 rcases h:Ac n 0 2000000000 with _ | _
 ·simp only[go_sem,h,Wi]
 ·have hb:0≤n∧n≤2000000000:=by simpa [Ac] using h
  obtain⟨m,rfl⟩:=aP hb.1
  have e1:IntKind.i64.wrap ((m:Int).tmod 2)=(m:Int)%2:=by rw[aat (by omega)]; exact wrap_i64 (by omega) (by omega)
  simp only[go_sem,h,e1]
  refine cndC.mk (fun h1=>?_) (fun h1=>?_)
  ·have h1':(m:Int)%2=1:=by simpa using h1
   simp only[go_sem]
   rw[wrap_i64 (n:=(m:Int)+1) (by omega) (by omega),wrap_i64 (n:=0-((m:Int)+1)) (by omega) (by omega)]
   have e2:(0-((m:Int)+1)).tdiv 2 = -(((m:Int)+1)/2):=by rw[show 0-((m:Int)+1) = -((m:Int)+1) by omega,Int.neg_tdiv,df (by omega)]
   rw[e2,wrap_i64 (by omega) (by omega)]
   simp only[Wi,h,bD,zag,bz h1']
  ·have h1':¬ (m:Int)%2=1:=by simpa using h1
   simp only[go_sem]
   rw[df (by omega),wrap_i64 (by omega) (by omega)]
   simp only[Wi,h,bD,zag,aV h1']
theorem ji (n:Int):Ctr prog 269 [.c (.v (.int .i64 (n)))] [.val (.c (.v (.int .i64 (Wi n))))]:=by
 refine CM call269 func269 ntmps269 results269 fun hw=>?_
 simp only[go_sem]
 refine CallK.mk _ (AC _ _ _) fun _=>?_
 rcases h:Ac n 0 2000000000 with _ | _
 ·simp only[go_sem,h,Wi]
 ·have hb:0≤n∧n≤2000000000:=by simpa [Ac] using h
  obtain⟨m,rfl⟩:=aP hb.1
  have e1:IntKind.i64.wrap ((m:Int).tmod 2)=(m:Int)%2:=by rw[aat (by omega)]; exact wrap_i64 (by omega) (by omega)
  simp only[go_sem,h,e1]
  refine cndC.mk (fun h1=>?_) (fun h1=>?_)
  ·have h1':(m:Int)%2=1:=by simpa using h1
   simp only[go_sem]
   rw[wrap_i64 (n:=(m:Int)+1) (by omega) (by omega),wrap_i64 (n:=0-((m:Int)+1)) (by omega) (by omega)]
   have e2:(0-((m:Int)+1)).tdiv 2 = -(((m:Int)+1)/2):=by rw[show 0-((m:Int)+1) = -((m:Int)+1) by omega,Int.neg_tdiv,df (by omega)]
   rw[e2,wrap_i64 (by omega) (by omega)]
   simp only[Wi,h,bD,zag,bz h1']
  ·have h1':¬ (m:Int)%2=1:=by simpa using h1
   simp only[go_sem]
   rw[df (by omega),wrap_i64 (by omega) (by omega)]
   simp only[Wi,h,bD,zag,aV h1']
def UC:Option (Int×Nat)→List Res
 | some (n,q)=>[.val (.c (.v (.int .i64 (n)))),.val (.c (.v (.int .i64 ((q:Int))))),.val (.c (.v (.bool (true))))]
 | none=>[.val (.c (.v (.int .i64 (0)))),.val (.c (.v (.int .i64 (0)))),.val (.c (.v (.bool (false))))]
theorem uO {b:List Int} {p:Int} (h:¬ (0≤p∧p<b.length)):BN b p=none:=by
 unfold BN
 split
 ·rename_i hp
  have:b[p.toNat+0]?=none:=nR (by omega)
  rw[show (5:Nat)=4+1 from rfl,I9,this]
 ·rfl
theorem FD (b:List Int) (p:Int) (hb:AY b) (hl:b.length≤1048576):Ctr prog 242 [.c (.sl (b.map byteC)),.c (.v (.int .i64 (p)))] (UC (BN b p)):=by
 refine CM call242 func242 ntmps242 results242 fun hw=>?_
 simp only[go_sem,ae]
 refine CallK.mk _ (AL _ _ _) fun _=>?_
 rcases h:Ac p 0 (b.length:Int) with _ | _
 ·simp only[go_sem,h]
  rw[uO (by simp[Ac] at h; omega)]
  simp only[go_sem,UC]
 have hp:0≤p∧p≤b.length:=by simpa [Ac] using h
 obtain⟨m,rfl⟩:=aP hp.1
 simp only[go_sem,h,ae]
 have hm5:BN b m=I9 b m 5 0 0:=by unfold BN; rw[bz (by omega)]; rfl
 refine LoopU.mk 0 (A:=Nat×Int) (fun x=>[(8,.c (.v (.int .i64 (x.1)))),(7,.c (.v (.int .i64 (x.2))))]) (fun _=>[]) (fun x=>x.1≤5∧0≤x.2∧x.2<128 ^ x.1∧I9 b m (5-x.1) x.2 x.1=BN b m) (fun x=>5-x.1) (0,0) ⟨⟨rfl,rfl⟩,rfl,by omega,by omega,by decide,hm5.symm⟩ ?_
 rintro⟨i,x⟩ ⟨hi,hx0,hx1,hg⟩
 dsimp only at hi hx0 hx1 hg
 have hw1:IntKind.i64.wrap ((b.length:Int)-m)=b.length-m:=wrap_i64 (by omega) (by omega)
 have hw2:IntKind.i64.wrap ((m:Int)+i)=((m+i:Nat):Int):=by rw[wrap_i64 (by omega) (by omega)]; omega
 rcases h5:decide ((i:Int)<5) with _ | _
 ·have hi5:i=5:=by simp at h5; omega
  subst hi5
  simp only[dM,I9] at hg
  simp only[go_sem,h5]
  rw[← hg]
  simp only[go_sem,UC]
 have hi5:i<5:=by simp at h5; omega
 rw[show 5-i=(4-i)+1 by omega,I9] at hg
 rcases h6:decide ((i:Int)<(b.length:Int)-m) with _ | _
 ·have h6':¬ m+i<b.length:=by simp at h6; omega
  rw[nR (by omega)] at hg
  simp only[go_sem,ae,h5,h6,hw1,hw2]
  simp only at hg
  rw[← hg]
  simp only[go_sem,UC]
 have h6':m+i<b.length:=by simp at h6; omega
 have hbc:=hb _ (aj h6')
 rw[aA h6'] at hg
 generalize hc:b[m+i]=c at hg hbc
 obtain⟨c0,c1⟩:=hbc
 simp only at hg
 have hP:(128:Int) ^ i≤268435456:=by
  have:i=0∨i=1∨i=2∨i=3∨i=4:=by omega
  rcases this with rfl | rfl | rfl | rfl | rfl<;>decide
 have hP0:(0:Int)≤c%128*128 ^ i:=aaY (by omega) (yX (by omega))
 have hP1:c%128*128 ^ i≤127*268435456:=Int.le_trans (zt (by omega) (yX (by omega))) (abe hP (by omega))
 have hP2:x+c%128*128 ^ i<128 ^ (i+1):=by
  have:c%128*128 ^ i≤127*128 ^ i:=zt (by omega) (yX (by omega))
  rw[wB]; omega
 have hP3:0≤(c%128*128 ^ i:Int):=hP0
 have hwc:IntKind.i64.wrap c=c:=wrap_i64 (by omega) (by omega)
 have hwa:IntKind.i64.wrap (X7 .i64 c 127)=c%128:=by rw[w_ (by omega) (by omega),wrap_i64 (by omega) (by omega)]
 have hwt:IntKind.i64.wrap (c.tmod 128)=c%128:=by rw[aat (by omega),wrap_i64 (by omega) (by omega)]
 have hw7:IntKind.i64.wrap (7*(i:Int))=((7*i:Nat):Int):=by rw[wrap_i64 (by omega) (by omega)]; omega
 have hws:IntKind.i64.wrap (c%128*2 ^ min (7*i) 64)=c%128*128 ^ i:=by
  rw[show min (7*i) 64=7*i from X4 (by omega),← NI,wrap_i64 (by omega) (by omega)]
 have hwo:IntKind.i64.wrap (orK .i64 x (c%128*128 ^ i))=x+c%128*128 ^ i:=by
  rw[NI,YZ .i64 hx0 (by rw[← NI]; exact hx1) (by omega) (by rw[← NI]; simp[IntKind.bits]; omega),← NI,wrap_i64 (by omega) (by omega)]
 have hwp:IntKind.i64.wrap (x+c%128*128 ^ i)=x+c%128*128 ^ i:=wrap_i64 (by omega) (by omega)
 have hwi:IntKind.i64.wrap ((i:Int)+1)=((i+1:Nat):Int):=by rw[wrap_i64 (by omega) (by omega)]; omega
 have hwe:IntKind.i64.wrap (((m+i:Nat):Int)+1)=((m+i+1:Nat):Int):=by rw[wrap_i64 (by omega) (by omega)]; omega
 simp only[go_sem,ae,h5,h6,hw1,hw2,AA _ h6',hc]
 simp only[go_sem,ae,h5,h6,hw1,hw2,AA _ h6',hc,hwc,hwa,hwt,hw7,hws,hwo,hwp]
 rcases h7:decide (c>127) with _ | _
 rotate_left
 ·have h7':c≥128:=by simp at h7; omega
  rw[bz h7'] at hg
  simp only[go_sem,h7,hwi]
  exact⟨(i+1,x+c%128*128 ^ i),⟨rfl,rfl⟩,rfl,⟨by simp only; omega,by simp only; omega,hP2,by rw[show 5-(i+1)=4-i by omega]; exact hg⟩,by simp only; omega⟩
 have h7':¬ c≥128:=by simp at h7; omega
 rw[aV h7'] at hg
 have hz:Wi (x+c%128*128 ^ i)=if x+c%128*128 ^ i>2000000000 then 0 else zag (x+c%128*128 ^ i):=by
  unfold Wi
  by_cases h2:x+c%128*128 ^ i>2000000000
  ·rw[bz h2,aV (by simp[Ac]; omega)]
  ·rw[aV h2,bz (by simp[Ac]; omega)]
 rcases h8:decide (x+c%128*128 ^ i>2000000000) with _ | _<;>rcases h9:c==0 with _ | _<;>rcases h10:decide ((i:Int)>0) with _ | _<;>simp only[go_sem,h7,h8,h9,h10]
 case' false.false.false | false.false.true | false.true.false =>
  have h8':¬ x+c%128*128 ^ i>2000000000:=by simpa using h8
  rw[aV (by simp at h9 h10; omega)] at hg
  refine CallK.mk _ (jh _) fun _=>?_
  simp only[go_sem,hw2,hwe]
  rw[hz,aV h8',← hg]
  simp only[go_sem,UC]
 all_goals
  rw[bz (by simp at h8 h9 h10; omega)] at hg
  rw[← hg]
  simp only[go_sem,UC]
theorem FH (b:List Int) (p:Int) (hb:AY b) (hl:b.length≤1048576):Ctr prog 250 [.c (.sl (b.map byteC)),.c (.v (.int .i64 (p)))] (UC (BN b p)):=by
 refine CM call250 func250 ntmps250 results250 fun hw=>?_
 rcases h0:decide (p<0) with _ | _
 rotate_left
 ·simp only[go_sem,h0]
  rw[uO (by simp at h0; omega)]
  simp only[go_sem,UC]
 have hp0:0≤p:=by simpa using h0
 obtain⟨m,rfl⟩:=aP hp0
 rcases h1:decide ((m:Int)≥b.length) with _ | _
 rotate_left
 ·simp only[go_sem,ae,h0,h1]
  rw[uO (by simp at h1; omega)]
  simp only[go_sem,UC]
 have hp:(m:Int)≤b.length:=by simp at h1; omega
 simp only[go_sem,h0,h1,ae]
 have hm5:BN b m=I9 b m 5 0 0:=by unfold BN; rw[bz (by omega)]; rfl
 refine LoopU.mk 0 (A:=Nat×Int) (fun x=>[(8,.c (.v (.int .i64 (x.1)))),(7,.c (.v (.int .i64 (x.2))))]) (fun _=>[]) (fun x=>x.1≤5∧0≤x.2∧x.2<128 ^ x.1∧I9 b m (5-x.1) x.2 x.1=BN b m) (fun x=>5-x.1) (0,0) ⟨⟨rfl,rfl⟩,rfl,by omega,by omega,by decide,hm5.symm⟩ ?_
 rintro⟨i,x⟩ ⟨hi,hx0,hx1,hg⟩
 dsimp only at hi hx0 hx1 hg
 have hw1:IntKind.i64.wrap ((b.length:Int)-m)=b.length-m:=wrap_i64 (by omega) (by omega)
 have hw2:IntKind.i64.wrap ((m:Int)+i)=((m+i:Nat):Int):=by rw[wrap_i64 (by omega) (by omega)]; omega
 rcases h5:decide ((i:Int)<5) with _ | _
 ·have hi5:i=5:=by simp at h5; omega
  subst hi5
  simp only[dM,I9] at hg
  simp only[go_sem,h5]
  rw[← hg]
  simp only[go_sem,UC]
 have hi5:i<5:=by simp at h5; omega
 rw[show 5-i=(4-i)+1 by omega,I9] at hg
 rcases h6:decide (((m+i:Nat):Int)<(b.length:Int)) with _ | _
 ·have h6':¬ m+i<b.length:=by simp at h6; omega
  rw[nR (by omega)] at hg
  simp only[go_sem,ae,h5,h6,hw1,hw2]
  simp only at hg
  rw[← hg]
  simp only[go_sem,UC]
 have h6':m+i<b.length:=by simp at h6; omega
 have hbc:=hb _ (aj h6')
 rw[aA h6'] at hg
 generalize hc:b[m+i]=c at hg hbc
 obtain⟨c0,c1⟩:=hbc
 simp only at hg
 have hP:(128:Int) ^ i≤268435456:=by
  have:i=0∨i=1∨i=2∨i=3∨i=4:=by omega
  rcases this with rfl | rfl | rfl | rfl | rfl<;>decide
 have hP0:(0:Int)≤c%128*128 ^ i:=aaY (by omega) (yX (by omega))
 have hP1:c%128*128 ^ i≤127*268435456:=Int.le_trans (zt (by omega) (yX (by omega))) (abe hP (by omega))
 have hP2:x+c%128*128 ^ i<128 ^ (i+1):=by
  have:c%128*128 ^ i≤127*128 ^ i:=zt (by omega) (yX (by omega))
  rw[wB]; omega
 have hP3:0≤(c%128*128 ^ i:Int):=hP0
 have hwc:IntKind.i64.wrap c=c:=wrap_i64 (by omega) (by omega)
 have hwa:IntKind.i64.wrap (X7 .i64 c 127)=c%128:=by rw[w_ (by omega) (by omega),wrap_i64 (by omega) (by omega)]
 have hwt:IntKind.i64.wrap (c.tmod 128)=c%128:=by rw[aat (by omega),wrap_i64 (by omega) (by omega)]
 have hw7:IntKind.i64.wrap (7*(i:Int))=((7*i:Nat):Int):=by rw[wrap_i64 (by omega) (by omega)]; omega
 have hws:IntKind.i64.wrap (c%128*2 ^ min (7*i) 64)=c%128*128 ^ i:=by
  rw[show min (7*i) 64=7*i from X4 (by omega),← NI,wrap_i64 (by omega) (by omega)]
 have hwo:IntKind.i64.wrap (orK .i64 x (c%128*128 ^ i))=x+c%128*128 ^ i:=by
  rw[NI,YZ .i64 hx0 (by rw[← NI]; exact hx1) (by omega) (by rw[← NI]; simp[IntKind.bits]; omega),← NI,wrap_i64 (by omega) (by omega)]
 have hwp:IntKind.i64.wrap (x+c%128*128 ^ i)=x+c%128*128 ^ i:=wrap_i64 (by omega) (by omega)
 have hwi:IntKind.i64.wrap ((i:Int)+1)=((i+1:Nat):Int):=by rw[wrap_i64 (by omega) (by omega)]; omega
 have hwe:IntKind.i64.wrap (((m+i:Nat):Int)+1)=((m+i+1:Nat):Int):=by rw[wrap_i64 (by omega) (by omega)]; omega
 simp only[go_sem,ae,h5,h6,hw1,hw2,AA _ h6',hc]
 simp only[go_sem,ae,h5,h6,hw1,hw2,AA _ h6',hc,hwc,hwa,hwt,hw7,hws,hwo,hwp]
 rcases h7:decide (c≥128) with _ | _
 rotate_left
 ·have h7':c≥128:=by simp at h7; omega
  rw[bz h7'] at hg
  simp only[go_sem,h7,hwi]
  exact⟨(i+1,x+c%128*128 ^ i),⟨rfl,rfl⟩,rfl,⟨by simp only; omega,by simp only; omega,hP2,by rw[show 5-(i+1)=4-i by omega]; exact hg⟩,by simp only; omega⟩
 have h7':¬ c≥128:=by simp at h7; omega
 rw[aV h7'] at hg
 have hz:Wi (x+c%128*128 ^ i)=if x+c%128*128 ^ i>2000000000 then 0 else zag (x+c%128*128 ^ i):=by
  unfold Wi
  by_cases h2:x+c%128*128 ^ i>2000000000
  ·rw[bz h2,aV (by simp[Ac]; omega)]
  ·rw[aV h2,bz (by simp[Ac]; omega)]
 rcases h8:decide (x+c%128*128 ^ i>2000000000) with _ | _<;>rcases h9:c==0 with _ | _<;>rcases h10:decide ((i:Int)>0) with _ | _<;>simp only[go_sem,h7,h8,h9,h10]
 case' false.false.false | false.false.true | false.true.false =>
  have h8':¬ x+c%128*128 ^ i>2000000000:=by simpa using h8
  rw[aV (by simp at h9 h10; omega)] at hg
  refine CallK.mk _ (ji _) fun _=>?_
  simp only[go_sem,hw2,hwe]
  rw[hz,aV h8',← hg]
  simp only[go_sem,UC]
 all_goals
  rw[bz (by simp at h8 h9 h10; omega)] at hg
  rw[← hg]
  simp only[go_sem,UC]
theorem Es (l:List Int):Jj 1 (l.map byteC)=true:=aF.2 fun r hr=>by
 obtain⟨x,_,rfl⟩:=WY.1 hr
 rfl
theorem Et (l:List Int) (h:l.length≤2147483648):Ctr prog 194 [.c (.sl (l.map byteC))] [.own 5 1 (l.map byteC) true]:=by
 refine CM call194 func194 ntmps194 results194 fun hw=>?_
 simp only[go_sem,Es,ae,h,aJ,Bg]
 try simp[AU,AO]
def Wj (n:Int):List Int:=if DX n=true then EM n else []
theorem JZ (out:List Int) (c:Int):(out ++ [c]).map byteC=out.map byteC ++ [[.v (.int .u8 c)]]:=by simp[NM]
theorem pM (out:List Int) (c:Int):Df (out.map byteC ++ [[.v (.int .u8 c)]])=true:=by rw[← JZ]; exact Bg _
theorem XN:∀ (f:Nat) (x:Int),(YR f x).length≤f+1
 | 0,_=>aN _
 | f+1,x=>by
  rw[YR]
  split
  ·have:=XN f (x/128); simp; omega
  ·simp
theorem FI (b:List Int) (n:Int) (hl:b.length≤1048576):Ctr prog 280 [.c (.sl (b.map byteC)),.c (.v (.int .i64 (n)))] [.own 5 1 ((b++Wj n).map byteC) true]:=by
 refine CM call280 func280 ntmps280 results280 fun hw=>?_
 have hl2:b.length≤2147483648:=by omega
 simp only[go_sem,Es,ae,hl2,aJ]
 refine CallK.mk _ (Et b hl2) fun _=>?_
 simp only[go_sem,ae]
 refine CallK.mk _ (LX _) fun _=>?_
 rcases h:DX n with _ | _
 ·simp only[go_sem,h,Wj,aC,aT,bF,Bg]
  try simp[AU,AO]
 have hn:=Ql.1 h
 have hz:Wh n=zig n:=by simp only[Wh,h,bD]
 have hz0:0≤zig n∧zig n<128 ^ 5:=VO hn.1 hn.2
 simp only[go_sem,h]
 refine CallK.mk _ (jg _) fun _=>?_
 rw[hz]
 simp only[go_sem,h]
 have hput:Wj n=EM n:=by simp only[Wj,h,bD]
 rw[hput]
 refine LoopH.mk [8] (A:=Nat×Int×List Int) (fun x=>[(6,.c (.v (.int .i64 (x.2.1)))),(5,.c (.ref 0))]) (fun x=>[⟨5,1,x.2.2.map byteC,true,true⟩]) (fun x=>x.1≤4∧0≤x.2.1∧x.2.1<128 ^ (x.1+1)∧x.2.2++YR x.1 x.2.1=b++EM n) (fun x=>x.1) (4,zig n,b) (Head.sel [(0,false)] ⟨rfl,rfl,AQ byteC.pure,trivial⟩ rfl) ⟨aN _,hz0.1,hz0.2,rfl⟩ ?_
 rintro⟨f,x,out⟩ ⟨hf,hx0,hx1,hb⟩
 dsimp only at hf hx0 hx1 hb
 have hol:out.length≤b.length+5:=by
  have h1:(EM n).length≤5:=XN 4 _
  have h2:=congrArg List.length hb
  simp only[aW] at h2
  omega
 have hol2:out.length+1≤2147483648:=by omega
 simp only[go_sem,ae]
 have hbig:x<34359738368:=by
  have:f=0∨f=1∨f=2∨f=3∨f=4:=by omega
  rcases this with rfl | rfl | rfl | rfl | rfl<;>simp at hx1<;>omega
 rcases h1:decide (x≥128) with _ | _
 ·have h1':¬ x≥128:=by simp at h1; omega
  have hwx:IntKind.u8.wrap x=x:=wrap_u8 hx0 (by omega)
  have hpn:YR f x = [x]:=by
   cases f with
   | zero=>rfl
   | succ f=>rw[YR,aV h1']
  rw[hpn] at hb
  rw[← hb,JZ]
  simp only[go_sem,bK,dm,h1,ae,hwx,hol2,aJ,pM]
  try simp[AU,AO]
 ·have h1':x≥128:=by simp at h1; omega
  cases f with
  | zero=>simp at hx1; omega
  | succ f =>
  rw[YR,bz h1'] at hb
  have hwt:IntKind.i64.wrap (x.tmod 128)=x%128:=by rw[aat (by omega),wrap_i64 (by omega) (by omega)]
  have hwd:IntKind.i64.wrap (x.tdiv 128)=x/128:=by rw[df (by omega),wrap_i64 (by omega) (by omega)]
  have hwa:IntKind.i64.wrap (x%128+128)=x%128+128:=wrap_i64 (by omega) (by omega)
  have hwb:IntKind.i64.wrap (128+x%128)=x%128+128:=by rw[wrap_i64 (by omega) (by omega)]; omega
  have hwu:IntKind.u8.wrap (x%128+128)=x%128+128:=wrap_u8 (by omega) (by omega)
  simp only[go_sem,bK,dm,h1,ae,hwt,hwd,hwa,hwb,hwu,hol2,aJ]
  exact⟨(f,x/128,out ++ [x%128+128]),Head.sel [(2,false)] ⟨rfl,rfl,by rw[← JZ]; exact AQ byteC.pure,trivial⟩ (by rw[← JZ]; rfl),⟨by simp only; omega,by simp only; omega,by simp only; rw[wB] at hx1; omega,by simp only; rw[← hb,bM]; rfl⟩,by simp only; omega⟩
theorem JA (b:List Int) (n:Int) (hl:b.length≤1048576):Ctr prog 307 [.c (.sl (b.map byteC)),.c (.v (.int .i64 (n)))] [.own 5 1 ((b++Wj n).map byteC) true]:=by
 refine CM call307 func307 ntmps307 results307 fun hw=>?_
 have hl2:b.length≤2147483648:=by omega
 simp only[go_sem,Es,ae,hl2,aJ]
 refine CallK.mk _ (Iu _) fun _=>?_
 rcases h:DX n with _ | _
 ·simp only[go_sem,h,Wj,aC,aT,bF,Bg]
  try simp[AU,AO]
 have hn:=Ql.1 h
 have hz:Wh n=zig n:=by simp only[Wh,h,bD]
 have hz0:0≤zig n∧zig n<128 ^ 5:=VO hn.1 hn.2
 simp only[go_sem,h]
 refine CallK.mk _ (jf _) fun _=>?_
 rw[hz]
 simp only[go_sem,h]
 have hput:Wj n=EM n:=by simp only[Wj,h,bD]
 rw[hput]
 refine LoopH.mk [9,7] (A:=Nat×Int×List Int) (fun x=>[(6,.c (.v (.int .i64 (x.2.1)))),(5,.c (.ref 0))]) (fun x=>[⟨5,1,x.2.2.map byteC,true,true⟩]) (fun x=>x.1≤4∧0≤x.2.1∧x.2.1<128 ^ (x.1+1)∧x.2.2++YR x.1 x.2.1=b++EM n) (fun x=>x.1) (4,zig n,b) (Head.sel [(1,false)] ⟨rfl,rfl,AQ byteC.pure,trivial⟩ rfl) ⟨aN _,hz0.1,hz0.2,rfl⟩ ?_
 rintro⟨f,x,out⟩ ⟨hf,hx0,hx1,hb⟩
 dsimp only at hf hx0 hx1 hb
 have hol:out.length≤b.length+5:=by
  have h1:(EM n).length≤5:=XN 4 _
  have h2:=congrArg List.length hb
  simp only[aW] at h2
  omega
 have hol2:out.length+1≤2147483648:=by omega
 simp only[go_sem,ae]
 have hbig:x<34359738368:=by
  have:f=0∨f=1∨f=2∨f=3∨f=4:=by omega
  rcases this with rfl | rfl | rfl | rfl | rfl<;>simp at hx1<;>omega
 rcases h1:decide (x>127) with _ | _
 ·have h1':¬ x≥128:=by simp at h1; omega
  have hwx:IntKind.u8.wrap x=x:=wrap_u8 hx0 (by omega)
  have hpn:YR f x = [x]:=by
   cases f with
   | zero=>rfl
   | succ f=>rw[YR,aV h1']
  rw[hpn] at hb
  rw[← hb,JZ]
  simp only[go_sem,bK,dm,h1,ae,hwx,hol2,aJ,pM]
  try simp[AU,AO]
 ·have h1':x≥128:=by simp at h1; omega
  cases f with
  | zero=>simp at hx1; omega
  | succ f =>
  rw[YR,bz h1'] at hb
  have hwt:IntKind.i64.wrap (x.tmod 128)=x%128:=by rw[aat (by omega),wrap_i64 (by omega) (by omega)]
  have hwd:IntKind.i64.wrap (x.tdiv 128)=x/128:=by rw[df (by omega),wrap_i64 (by omega) (by omega)]
  have hwa:IntKind.i64.wrap (x%128+128)=x%128+128:=wrap_i64 (by omega) (by omega)
  have hwb:IntKind.i64.wrap (128+x%128)=x%128+128:=by rw[wrap_i64 (by omega) (by omega)]; omega
  have hwu:IntKind.u8.wrap (x%128+128)=x%128+128:=wrap_u8 (by omega) (by omega)
  simp only[go_sem,bK,dm,h1,ae,hwt,hwd,hwa,hwb,hwu,hol2,aJ]
  exact⟨(f,x/128,out ++ [x%128+128]),Head.sel [(2,false)] ⟨rfl,rfl,by rw[← JZ]; exact AQ byteC.pure,trivial⟩ (by rw[← JZ]; rfl),⟨by simp only; omega,by simp only; omega,by simp only; rw[wB] at hx1; omega,by simp only; rw[← hb,bM]; rfl⟩,by simp only; omega⟩
end Go.Proofs.YtnfbaclikokapaaGreat
