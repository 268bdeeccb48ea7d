/- A part. -/
import Derived.Test.YtnoldekcdlaahaaGreatYt
import Derived.Test.YtnoldekcdlaahaaGreatAa
import Derived.Test.YtnoldekcdlaahaaGreatOa
set_option linter.unusedSimpArgs false
set_option linter.unusedVariables false
set_option maxHeartbeats 4000000
set_option maxRecDepth 100000
open Go.Proofs.Tryz
namespace Go.Proofs.YtnoldekcdlaahaaGreat
open Go.Proofs Go.Shelf Go.RowKit Go.Lib Go.Sort
section
variable {p q r:Prop}
theorem AQF(h:p:=by rw[← hT]; kernel_rfl):p:=h
end
theorem Ll {w:World} {blk off:Nat} {d:Array DVal} (h:HoldsK EJ 3 w blk off d) {i:Nat} (hi:i<d.size) :
  w.cell? ⟨blk,off+i*3,none⟩=some (.int .i64 d[i]!.ty)∧w.cell? ⟨blk,off+i*3+1,none⟩=some (.int .i64 d[i]!.n)∧w.cell? ⟨blk,off+i*3+2,none⟩=some (.string d[i]!.s):=
 ⟨(HoldsK.cell h hi (show 0<3 from Go.Vm.AOh)).1,(HoldsK.cell h hi (show 1<3 from Go.Vm.AOh)).1,(HoldsK.cell h hi (show 2<3 from Go.Vm.AOh)).1⟩
theorem pV {w:World} {blk off:Nat} {d:Array DVal} (h:HoldsK EJ 3 w blk off d) {i:Nat} (hi:i<d.size) :
  w.frozen? ⟨blk,off+i*3,none⟩=false∧w.frozen? ⟨blk,off+i*3+1,none⟩=false∧w.frozen? ⟨blk,off+i*3+2,none⟩=false:=
 ⟨(HoldsK.cell h hi (show 0<3 from Go.Vm.AOh)).2,(HoldsK.cell h hi (show 1<3 from Go.Vm.AOh)).2,(HoldsK.cell h hi (show 2<3 from Go.Vm.AOh)).2⟩
theorem vk (d:Array DVal) (i:Nat) (hi:i<d.size) (x:DVal):setMany (flatK EJ 3 d) (i*3) (EJ x)=flatK EJ 3 (d.setIfInBounds i x):=by
 refine ext_get! Go.Vm.AOi fun t ht=>?_
 have ht':t<d.size*3:=by simpa using ht
 rw[get_setMany _ _ _ t (by simpa using ht'),get_flatK _ _ d t ht',get_flatK _ _ (d.setIfInBounds i x) t (by simpa using ht')]
 show (if i*3≤t∧t<i*3+3 then _ else _)=_
 by_cases e:t/3=i
 ·rw[if_pos Go.Vm.AOh]
  subst e
  rw[getElem!_set_same _ _ _ hi,show t-t/3*3=t%3 from Go.Vm.AOh]
 ·rw[if_neg Go.Vm.AOh]
  congr 2
  have hlt:t/3<d.size:=Go.Vm.AOh
  simp[Array.getElem!_eq_getD,Array.getD,Array.getElem_setIfInBounds,Ne.symm e,hlt]
theorem vw {w wr:World} {q blk off:Nat} {dk:Array DVal} (hwr:wr=putRowK EJ 3 (Sort.ahead w q) blk off dk) {i:Nat} (hi:i<dk.size) (x:DVal) :
  (wr.setCells blk (off+i*3) (EJ x)).drew=putRowK EJ 3 (Sort.ahead w (q+1)) blk off (dk.setIfInBounds i x):=by
 rw[hwr]
 unfold putRowK
 rw[setCells_putRow _ _ _ _ _ _ (by simp[EJ]; omega),vk dk i hi x]
 rfl
theorem ACW {w:World} {blk off:Nat} {dk:Array DVal} (h:HoldsK EJ 3 w blk off dk) {i n c:Nat} {ty:TypeId} (hi:i+n=dk.size) (hn:0<n) :
  ∃ zs:List Value,zs.length=n*3∧(Builtin.clear_ #[62] ty #[.slice (some ⟨blk,off+i*3,none⟩) n c]).run prog w = .ok (.tuple #[]) (w.setCells blk (off+i*3) zs):=by
 refine⟨(Builtin.zeroCells #[.int .i64 0,.int .i64 0,.string ⟨#[]⟩] n).toList,by simp[Builtin.zeroCells], ?_⟩
 have hst:=stores_of_holds prog h (i*3) (Builtin.zeroCells #[.int .i64 0,.int .i64 0,.string ⟨#[]⟩] n).toList (by simp[Builtin.zeroCells,size_flatK]; omega) (by
  intro v hv
  simp only[Builtin.zeroCells,Array.toList_map,List.mem_map] at hv
  obtain⟨t,_,rfl⟩:=hv
  have h3:t%3<3:=Nat.mod_lt _ Go.Vm.AOh
  show (#[Value.int .i64 0,Value.int .i64 0,Value.string ⟨#[]⟩][t%3]!).oneCell'=true
  rcases(show t%3=0∨t%3=1∨t%3=2 from Go.Vm.AOh) with e | e | e<;>rw[e]<;>rfl)
 obtain⟨m,rfl⟩:∃ m,n=m+1:=⟨n-1,Go.Vm.AOh⟩
 have hz:=zeroValue64
 simp[Builtin.clear_,run_underlying underlying62,hz,Value.cells,hst]
theorem pW (blk off cap:Nat) (d:Array DVal) (w:World) (hH:HoldsK EJ 3 w blk off d) (hsz:d.size≤1048576) (hcap:d.size≤cap) :
  Calls prog 460 #[.slice (some ⟨blk,off,none⟩) d.size cap] w fun e w'=>e = .returned (.slice (some ⟨blk,off,none⟩) (compactUpTo d d.size).length cap)∧∃ q F,w'=putRow id (Sort.ahead w q) blk off F∧F.size=d.size*3∧∀ j,j<(compactUpTo d d.size).length→∀ c,c<3→F[j*3+c]! = (EJ (compactUpTo d d.size)[j]!)[c]!:=by
 have same:∀ q,(∀ j,j<d.size→keeps d j=true)→(compactUpTo d d.size).length=d.size∧∃ F,w.drewN q=putRow id (Sort.ahead w q) blk off F∧F.size=d.size*3∧∀ j,j<(compactUpTo d d.size).length→∀ c,c<3→F[j*3+c]! = (EJ (compactUpTo d d.size)[j]!)[c]!:=by
  intro q hall
  have e:compactUpTo d d.size=d.toList:=by rw[compactUpTo_all d _ hall,range_map_get]
  rw[e]
  refine⟨Go.Vm.AOi,flatK EJ 3 d,(putRow_self id (Sort.ahead w q) blk off _ (holds_ahead id w q blk off _ hH)).symm,Go.Vm.AOi,fun j hj c hc=>?_⟩
  have hj':j<d.size:=by simpa using hj
  rw[get_flatK _ _ _ _ Go.Vm.AOh,show (j*3+c)/3=j from Go.Vm.AOh,show (j*3+c)%3=c from Go.Vm.AOh]
  congr 2
  simp[hj']
 have HS:Aside _:=same
 clear same
 have mixed:prog.follows .mixedOrders=true:=by kernel_rfl
 have aE:=isAgg64
 have zE:=sizeOf64
 by_cases h2:d.size<2
 ·have HH:Aside _:=hH
  clear hH
  go_enter func460,ntmps460
  go_wp2
  go_ret
  obtain⟨e1,F,e2,e3,e4⟩:=HS.out 0 (fun j hj=>keeps_lt_one d j Go.Vm.AOh)
  exact⟨by rw[e1]; rfl,0,F,e2,e3,e4⟩
 ·go_enter func460,ntmps460
  go_wp2
  go_loopg [3] d.size (fun g s3 wr=>∃ k q:Nat,1≤k∧k≤d.size∧d.size-k≤g∧s3 = .int .i64 k∧wr=w.drewN q∧∀ j,j<k→keeps d j=true)
  case atStart=>exact⟨1,0,Nat.le_refl _,Go.Vm.AOh,Go.Vm.AOh,rfl,rfl,keeps_lt_one d⟩
  case round =>
   obtain⟨k,q,hk1,hk,hg,rfl,rfl,hall⟩:=hrel
   by_cases hlt:k<d.size
   ·obtain⟨c10,c11,c12⟩:=Ll hH hlt
    obtain⟨c00,c01,c02⟩:=Ll hH (show k-1<d.size from Go.Vm.AOh)
    have A:Aside (∀ j,j<k→keeps d j=true):=hall
    have HH:Aside _:=hH
    clear hall hH
    generalize hx:d[k]! = x at c10 c11 c12
    generalize hy:d[k-1]! = y at c00 c01 c02
    have B:Aside (d[k]! = x∧d[k-1]! = y):=⟨hx,hy⟩
    clear hx hy
    have hgd:=fun(op:BinOp) (a b:Operand) (w:World)=>AID op a b x y w
    have heq:=fun(w:World)=>ALT x y w
    by_cases hdup:x=y
    ·subst hdup
     simp only[decide_true] at heq
     obtain⟨xt,xn,xs⟩:=x
     simp only[EJ] at hgd heq
     go_wp2_with fail
     go_region_o
     go_wp2
     clear c10 c11 c12 c00 c01 c02 hgd heq
     go_loopg [3,5] d.size (fun g s3 s5 wr=>∃ (kk k2 q2:Nat) (dk:Array DVal),s3 = .int .i64 kk∧s5 = .int .i64 k2∧1≤k2∧k+k2≤d.size∧d.size-(k+k2)≤g∧wr=putRowK EJ 3 (Sort.ahead w q2) blk off dk∧CompInv d (k+k2) kk dk)
     case atStart=>exact⟨k,1,q+1,d,rfl,rfl,Nat.le_refl _,Go.Vm.AOh,Go.Vm.AOh,(putRowK_self EJ 3 (Sort.ahead w (q+1)) blk off d (holdsK_ahead EJ 3 w (q+1) blk off d HH.out)).symm,CompInv.start A.out (keeps_neg Go.Vm.AOh (by rw[B.out.1,B.out.2]))⟩
     case round =>
      obtain⟨kk,k2,q2,dk,rfl,rfl,h1,hle,hg2,hwr,hI⟩:=hrel
      have hkk:=hI.lt
      have hds:=hI.size
      have hHk:HoldsK EJ 3 wr blk off dk:=by rw[hwr]; exact holdsK_putRowK EJ 3 _ blk off d dk (holdsK_ahead EJ 3 w q2 blk off d HH.out) hds
      have W2:Aside (wr=putRowK EJ 3 (Sort.ahead w q2) blk off dk):=hwr
      have I2:Aside (CompInv d (k+k2) kk dk):=hI
      clear hwr
      by_cases hlt2:k+k2<d.size
      ·obtain⟨m0,m1,m2⟩:=Ll hHk (show k+k2<dk.size from Go.Vm.AOh)
       obtain⟨p0,p1,p2⟩:=Ll hHk (show k+k2-1<dk.size from Go.Vm.AOh)
       obtain⟨k0,k1,k3⟩:=Ll hHk (show kk<dk.size from Go.Vm.AOh)
       obtain⟨f0,f1,f2⟩:=pV hHk (show kk<dk.size from Go.Vm.AOh)
       rw[hI.high (k+k2) Go.Vm.AOh,show off+(k+k2)*3=off+k*3+k2*3 from Go.Vm.AOh] at m0 m1 m2
       rw[hI.high (k+k2-1) Go.Vm.AOh,show off+(k+k2-1)*3=off+k*3+(k2-1)*3 from Go.Vm.AOh] at p0 p1 p2
       clear hI
       have HHk:Aside _:=hHk
       clear hHk
       generalize hu:d[k+k2]! = u at m0 m1 m2
       generalize hv:d[k+k2-1]! = v at p0 p1 p2
       generalize dk[kk]! = old at k0 k1 k3
       have C:Aside (d[k+k2]! = u∧d[k+k2-1]! = v):=⟨hu,hv⟩
       clear hu hv
       have hgd:=fun(op:BinOp) (a b:Operand) (w:World)=>AID op a b u v w
       have hne:=fun(w:World)=>ALU u v w
       by_cases huv:u=v
       ·subst huv
        simp only[decide_true] at hne
        obtain⟨ut,un,us⟩:=u
        simp only[EJ] at hgd hne
        go_wp2_with fail
        go_region_o
        go_wp2
        go_roundg (d.size-(k+(k2+1)))
        case measure=>omega
        case rel=>exact⟨kk,k2+1,q2+1,dk,rfl,by go_num,Go.Vm.AOh,Go.Vm.AOh,Nat.le_refl _,by rw[W2.out]; rfl,I2.out.skip (keeps_neg Go.Vm.AOh (by rw[C.out.1,C.out.2]))⟩
       ·simp only[huv,decide_false] at hne
        have CC:Aside (u≠v):=huv
        clear huv
        have hst:=vw W2.out (show kk<dk.size from Go.Vm.AOh) u
        have HST:Aside _:=hst
        clear hst
        obtain⟨ut,un,us⟩:=u
        obtain⟨vt,vn,vs⟩:=v
        simp only[EJ] at hgd hne
        go_wp2_with fail
        go_region_o
        go_wp2
        go_roundg (d.size-(k+(k2+1)))
        case measure=>omega
        case rel=>exact⟨kk+1,k2+1,q2+1,dk.setIfInBounds kk ⟨ut,un,us⟩,by go_num,by go_num,Go.Vm.AOh,Go.Vm.AOh,Nat.le_refl _,HST.out,by have:=I2.out.keep hlt2 (keeps_pos (by rw[C.out.1,C.out.2]; exact CC.out)); rwa [C.out.1] at this⟩
      ·have hend:k+k2=d.size:=by omega
       have HHk:Aside _:=hHk
       have hcl:=fun ty=>ACW (ty:=ty) (c:=cap-kk) hHk (show kk+(d.size-kk)=dk.size from Go.Vm.AOh) Go.Vm.AOh
       clear hHk hI
       obtain⟨zs,hz1,hz2⟩:∃ zs:List Value,zs.length=(d.size-kk)*3∧∀ ty,(Builtin.clear_ #[62] ty #[.slice (some ⟨blk,off+kk*3,none⟩) (d.size-kk) (cap-kk)]).run prog wr = .ok (.tuple #[]) (wr.setCells blk (off+kk*3) zs):=by
        obtain⟨zs,q1,q2⟩:=hcl 0
        exact⟨zs,q1,fun _=>q2⟩
       clear hcl
       go_wp2
       go_ret
       have hI:=I2.out
       rw[hend] at hI
       refine⟨by rw[hI.len]; rfl,q2,setMany (flatK EJ 3 dk) (kk*3) zs, ?_,by simp[hds],fun j hj c hc=>?_⟩
       ·rw[W2.out]
        unfold putRowK
        exact setCells_putRow _ _ _ _ _ _ (by simp[hz1,hds]; omega)
       ·rw[hI.len] at hj
        rw[get_setMany _ _ _ _ (by simp[hds]; omega),if_neg Go.Vm.AOh,get_flatK _ _ _ _ Go.Vm.AOh,show (j*3+c)/3=j from Go.Vm.AOh,show (j*3+c)%3=c from Go.Vm.AOh]
        have:=hI.low j hj
        rw[getElem!_pos (compactUpTo d d.size) j (by rw[hI.len]; exact hj)]
        rw[List.getElem?_eq_getElem (by rw[hI.len]; exact hj)] at this
        rw[Option.some.inj this]
    ·simp only[hdup,decide_false] at heq
     have BB:Aside (x≠y∧d[k]! = x∧d[k-1]! = y):=⟨hdup,B.out⟩
     clear hdup B
     obtain⟨xt,xn,xs⟩:=x
     obtain⟨yt,yn,ys⟩:=y
     simp only[EJ] at hgd heq
     go_wp2_with fail
     go_region_o
     go_wp2
     go_roundg (d.size-(k+1))
     case measure=>omega
     case rel =>
      refine⟨k+1,q+1,Go.Vm.AOh,Go.Vm.AOh,Nat.le_refl _,by go_num,rfl,fun j hj=>?_⟩
      by_cases e:j=k
      ·subst e
       exact keeps_pos (by rw[BB.out.2.1,BB.out.2.2]; exact BB.out.1)
      ·exact A.out j Go.Vm.AOh
   ·have:k=d.size:=by omega
    subst this
    have HH:Aside _:=hH
    clear hH
    go_wp2
    go_ret
    obtain⟨e1,F,e2,e3,e4⟩:=HS.out q hall
    exact⟨by rw[e1]; rfl,q,F,e2,e3,e4⟩
open Go.Vm
theorem fP (k:IntKind) (a b:Nat) (ha:a<2 ^ k.bits) (hb:b<2 ^ k.bits):dP k (a:Int) (b:Int)=((a &&& b:Nat):Int):=by
 unfold dP
 rw[BitVec.ofInt_natCast,BitVec.ofInt_natCast,BitVec.toNat_and,BitVec.toNat_ofNat,BitVec.toNat_ofNat,abH ha,abH hb]
theorem AF_ (k:IntKind) (a b:Nat) (ha:a<2 ^ k.bits) (hb:b<2 ^ k.bits):orK k (a:Int) (b:Int)=((a ||| b:Nat):Int):=by
 unfold orK
 rw[BitVec.ofInt_natCast,BitVec.ofInt_natCast,BitVec.toNat_or,BitVec.toNat_ofNat,BitVec.toNat_ofNat,abH ha,abH hb]
theorem ABE {x:Int} (h0:0≤x) (h1:x<9223372036854775808):dP .i64 x 127=x%128:=by
 obtain⟨n,rfl⟩:=aO h0
 have:=fP .i64 n 127 (show n<18446744073709551616 from AOh) AOq
 rw[show ((127:Nat):Int)=127 from rfl] at this
 rw[this,show (127:Nat)=2 ^ 7-1 from rfl,Nat.and_two_pow_sub_one_eq_mod]
 omega
theorem AG2 {x:Int} (h0:0≤x) (h1:x<9223372036854775808):dP .i64 x 1=x%2:=by
 obtain⟨n,rfl⟩:=aO h0
 have:=fP .i64 n 1 (show n<18446744073709551616 from AOh) AOq
 exact AOF
theorem AH7 {x:Int} (h0:0≤x) (h1:x<256):dP .u8 x 1=x%2:=by
 obtain⟨n,rfl⟩:=aO h0
 have:=fP .u8 n 1 (show n<256 from AOh) AOq
 exact AOF
theorem fQ (k:IntKind) {x y:Int} {s:Nat} (h0:0≤x) (h1:x<2 ^ s) (hy:0≤y) (hb:x+y*2 ^ s<2 ^ k.bits):orK k x (y*2 ^ s)=x+y*2 ^ s:=by
 obtain⟨n,rfl⟩:=aO h0
 obtain⟨m,rfl⟩:=aO hy
 have e:(m:Int)*2 ^ s=((m*2 ^ s:Nat):Int):=by push_cast; rfl
 have h1':n<2 ^ s:=by exact_mod_cast h1
 have hb':n+m*2 ^ s<2 ^ k.bits:=by rw[e] at hb; exact_mod_cast hb
 rw[e,AF_ k n (m*2 ^ s) AOh AOh,Nat.or_comm,Nat.mul_comm m,← Nat.two_pow_add_eq_or_of_lt h1' m]
 omega
theorem wrap_u8 {n:Int} (h:0≤n) (h2:n<256):IntKind.u8.wrap n=n:=Ko (by
 simp only[Lit.wf,ay,bf]
 simp[IntKind.min,IntKind.max,IntKind.bits,IntKind.signed]
 omega)
@[go_sem] theorem ALd:((2:Int)=0)=False:=AOi
@[go_sem] theorem ALe:((8:Int)=0)=False:=AOi
@[go_sem] theorem ALP:((128:Int)=0)=False:=AOi
@[go_sem] theorem AK1 (n:Nat):(((n:Int))<0)=False:=AOi
theorem Ou (i:Nat):(128:Int) ^ i=2 ^ (7*i):=by rw[Int.pow_mul]; rfl
def Y1 (n:Int):Int:=if EL n=true then zig n else 0
theorem S_ {n:Int}:EL n=true↔ -1000000000≤n∧n≤1000000000:=by simp[EL,Aa]
theorem pX (n:Int):Ctr prog 370 [.c (.v (.int .i64 (n)))] [.val (.c (.v (.int .i64 (Y1 n))))]:=by
 refine CM call370 func370 ntmps370 results370 fun hw=>?_
 simp only[go_sem]
 refine AAT _ (Jj _) fun _=>?_
 exact AKU
theorem pY (n:Int):Ctr prog 374 [.c (.v (.int .i64 (n)))] [.val (.c (.v (.int .i64 (Y1 n))))]:=by
 refine CM call374 func374 ntmps374 results374 fun hw=>?_
 simp only[go_sem]
 refine AAT _ (NL _) fun _=>?_
 exact AKU
def Y2 (n:Int):Int:=if Aa n 0 2000000000=true then zag n else 0
theorem pg (n:Int):Ctr prog 381 [.c (.v (.int .i64 (n)))] [.val (.c (.v (.int .i64 (Y2 n))))]:=by
 refine CM call381 func381 ntmps381 results381 fun hw=>?_
 simp only[go_sem]
 refine AAT _ (AP _ _ _) fun _=>?_
 exact AHb
theorem pq (n:Int):Ctr prog 390 [.c (.v (.int .i64 (n)))] [.val (.c (.v (.int .i64 (Y2 n))))]:=by
 refine CM call390 func390 ntmps390 results390 fun hw=>?_
 simp only[go_sem]
 refine AAT _ (AL _ _ _) fun _=>?_
 exact AHb
def Vw:Option (Int×Nat)→List Res
 | some (n,q)=>[.val (.c (.v (.int .i64 (n)))),.val (.c (.v (.int .i64 ((q:Int))))),.val (.c (.v (.bool (true))))]
 | none=>[.val (.c (.v (.int .i64 (0)))),.val (.c (.v (.int .i64 (0)))),.val (.c (.v (.bool (false))))]
theorem zZ {b:List Int} {p:Int} (h:¬ (0≤p∧p<b.length)):BX b p=none:=by
 unfold BX
 split
 ·rename_i hp
  have:b[p.toNat+0]?=none:=uU AOh
  rw[show (5:Nat)=4+1 from rfl,J8,this]
 ·rfl
theorem GM (b:List Int) (p:Int) (hb:Ad b) (hl:b.length≤1048576):Ctr prog 347 [.c (.sl (b.map byteC)),.c (.v (.int .i64 (p)))] (Vw (BX b p)):=by
 refine CM call347 func347 ntmps347 results347 fun hw=>?_
 simp only[go_sem,ae]
 refine AAT _ (AP _ _ _) fun _=>?_
 rcases h:Aa p 0 (b.length:Int) with _ | _
 ·simp only[go_sem,h]
  rw[zZ (by simp[Aa] at h; omega)]
  exact AM6
 have hp:0≤p∧p≤b.length:=by simpa [Aa] using h
 obtain⟨m,rfl⟩:=aO hp.1
 simp only[go_sem,h,ae]
 have hm5:BX b m=J8 b m 5 0 0:=by unfold BX; rw[bu AOh]; rfl
 refine AB4 0 (A:=Nat×Int) (fun x=>[(8,.c (.v (.int .i64 (x.1)))),(7,.c (.v (.int .i64 (x.2))))]) (fun _=>[]) (fun x=>x.1≤5∧0≤x.2∧x.2<128 ^ x.1∧J8 b m (5-x.1) x.2 x.1=BX b m) (fun x=>5-x.1) (0,0) ⟨⟨rfl,rfl⟩,rfl,AOh,AOh,AOq,hm5.symm⟩ ?_
 rintro⟨i,x⟩ ⟨hi,hx0,hx1,hg⟩
 dsimp only at hi hx0 hx1 hg
 have hw1:IntKind.i64.wrap ((b.length:Int)-m)=b.length-m:=wrap_i64 AOh AOh
 have hw2:IntKind.i64.wrap ((m:Int)+i)=((m+i:Nat):Int):=AOm
 rcases h5:decide ((i:Int)<5) with _ | _
 ·have hi5:i=5:=by simp at h5; omega
  subst hi5
  simp only[jP,J8] at hg
  simp only[go_sem,h5]
  rw[← hg]
  exact AM6
 have hi5:i<5:=by simp at h5; omega
 rw[show 5-i=(4-i)+1 from AOh,J8] at hg
 rcases h6:decide ((i:Int)<(b.length:Int)-m) with _ | _
 ·exact AMU
 have h6':m+i<b.length:=by simp at h6; omega
 have hbc:=hb _ (ax h6')
 rw[au h6'] at hg
 generalize hc:b[m+i]=c at hg hbc
 obtain⟨c0,c1⟩:=hbc
 simp only at hg
 have hP:(128:Int) ^ i≤268435456:=by
  exact ANn
 have hP0:(0:Int)≤c%128*128 ^ i:=aaX AOh (aaU AOh)
 have hP1:c%128*128 ^ i≤127*268435456:=abB (aad AOh (aaU AOh)) (abb hP AOh)
 have hP2:x+c%128*128 ^ i<128 ^ (i+1):=by
  exact AN9
 have hP3:0≤(c%128*128 ^ i:Int):=hP0
 have hwc:IntKind.i64.wrap c=c:=wrap_i64 AOh AOh
 have hwa:IntKind.i64.wrap (dP .i64 c 127)=c%128:=by rw[ABE AOh AOh,wrap_i64 AOh AOh]
 have hwt:IntKind.i64.wrap (c.tmod 128)=c%128:=by rw[aaq AOh,wrap_i64 AOh AOh]
 have hw7:IntKind.i64.wrap (7*(i:Int))=((7*i:Nat):Int):=AOm
 have hws:IntKind.i64.wrap (c%128*2 ^ min (7*i) 64)=c%128*128 ^ i:=by
  exact AN6
 have hwo:IntKind.i64.wrap (orK .i64 x (c%128*128 ^ i))=x+c%128*128 ^ i:=by
  exact AMr
 have hwp:IntKind.i64.wrap (x+c%128*128 ^ i)=x+c%128*128 ^ i:=wrap_i64 AOh AOh
 have hwi:IntKind.i64.wrap ((i:Int)+1)=((i+1:Nat):Int):=AOm
 have hwe:IntKind.i64.wrap (((m+i:Nat):Int)+1)=((m+i+1:Nat):Int):=AOm
 refine AOg ?_
 rcases h7:decide (c>127) with _ | _
 rotate_left
 ·exact ALk
 have h7':¬ c≥128:=by simp at h7; omega
 rw[aZ h7'] at hg
 have hz:Y2 (x+c%128*128 ^ i)=if x+c%128*128 ^ i>2000000000 then 0 else zag (x+c%128*128 ^ i):=by
  exact AM7
 rcases h8:decide (x+c%128*128 ^ i>2000000000) with _ | _<;>rcases h9:c==0 with _ | _<;>rcases h10:decide ((i:Int)>0) with _ | _<;>simp only[go_sem,h7,h8,h9,h10]
 case' false.false.false | false.false.true | false.true.false =>
  have h8':¬ x+c%128*128 ^ i>2000000000:=by simpa using h8
  rw[aZ (by simp at h9 h10; omega)] at hg
  refine AAT _ (pg _) fun _=>?_
  simp only[go_sem,hw2,hwe]
  rw[hz,aZ h8',← hg]
  exact AM6
 all_goals
  rw[bu (by simp at h8 h9 h10; omega)] at hg
  rw[← hg]
  exact AM6
theorem GN (b:List Int) (p:Int) (hb:Ad b) (hl:b.length≤1048576):Ctr prog 357 [.c (.sl (b.map byteC)),.c (.v (.int .i64 (p)))] (Vw (BX b p)):=by
 refine CM call357 func357 ntmps357 results357 fun hw=>?_
 rcases h0:decide (p<0) with _ | _
 rotate_left
 ·simp only[go_sem,h0]
  rw[zZ (by simp at h0; omega)]
  exact AM6
 have hp0:0≤p:=APU
 obtain⟨m,rfl⟩:=aO hp0
 rcases h1:decide ((m:Int)≥b.length) with _ | _
 rotate_left
 ·simp only[go_sem,ae,h0,h1]
  rw[zZ APg]
  exact AM6
 have hp:(m:Int)≤b.length:=APg
 simp only[go_sem,h0,h1,ae]
 have hm5:BX b m=J8 b m 5 0 0:=by unfold BX; rw[bu AOh]; rfl
 refine AB4 0 (A:=Nat×Int) (fun x=>[(8,.c (.v (.int .i64 (x.1)))),(7,.c (.v (.int .i64 (x.2))))]) (fun _=>[]) (fun x=>x.1≤5∧0≤x.2∧x.2<128 ^ x.1∧J8 b m (5-x.1) x.2 x.1=BX b m) (fun x=>5-x.1) (0,0) ⟨⟨rfl,rfl⟩,rfl,AOh,AOh,AOq,hm5.symm⟩ ?_
 rintro⟨i,x⟩ ⟨hi,hx0,hx1,hg⟩
 dsimp only at hi hx0 hx1 hg
 have hw1:IntKind.i64.wrap ((b.length:Int)-m)=b.length-m:=wrap_i64 AOh AOh
 have hw2:IntKind.i64.wrap ((m:Int)+i)=((m+i:Nat):Int):=AOm
 rcases h5:decide ((i:Int)<5) with _ | _
 ·have hi5:i=5:=by simp at h5; omega
  subst hi5
  simp only[jP,J8] at hg
  simp only[go_sem,h5]
  rw[← hg]
  exact AM6
 have hi5:i<5:=by simp at h5; omega
 rw[show 5-i=(4-i)+1 from AOh,J8] at hg
 rcases h6:decide (((m+i:Nat):Int)<(b.length:Int)) with _ | _
 ·exact AMU
 have h6':m+i<b.length:=by simp at h6; omega
 have hbc:=hb _ (ax h6')
 rw[au h6'] at hg
 generalize hc:b[m+i]=c at hg hbc
 obtain⟨c0,c1⟩:=hbc
 simp only at hg
 have hP:(128:Int) ^ i≤268435456:=by
  exact ANn
 have hP0:(0:Int)≤c%128*128 ^ i:=aaX AOh (aaU AOh)
 have hP1:c%128*128 ^ i≤127*268435456:=abB (aad AOh (aaU AOh)) (abb hP AOh)
 have hP2:x+c%128*128 ^ i<128 ^ (i+1):=by
  exact AN9
 have hP3:0≤(c%128*128 ^ i:Int):=hP0
 have hwc:IntKind.i64.wrap c=c:=wrap_i64 AOh AOh
 have hwa:IntKind.i64.wrap (dP .i64 c 127)=c%128:=by rw[ABE AOh AOh,wrap_i64 AOh AOh]
 have hwt:IntKind.i64.wrap (c.tmod 128)=c%128:=by rw[aaq AOh,wrap_i64 AOh AOh]
 have hw7:IntKind.i64.wrap (7*(i:Int))=((7*i:Nat):Int):=AOm
 have hws:IntKind.i64.wrap (c%128*2 ^ min (7*i) 64)=c%128*128 ^ i:=by
  exact AN6
 have hwo:IntKind.i64.wrap (orK .i64 x (c%128*128 ^ i))=x+c%128*128 ^ i:=by
  exact AMr
 have hwp:IntKind.i64.wrap (x+c%128*128 ^ i)=x+c%128*128 ^ i:=wrap_i64 AOh AOh
 have hwi:IntKind.i64.wrap ((i:Int)+1)=((i+1:Nat):Int):=AOm
 have hwe:IntKind.i64.wrap (((m+i:Nat):Int)+1)=((m+i+1:Nat):Int):=AOm
 refine AOg ?_
 rcases h7:decide (c≥128) with _ | _
 rotate_left
 ·exact ALk
 have h7':¬ c≥128:=by simp at h7; omega
 rw[aZ h7'] at hg
 have hz:Y2 (x+c%128*128 ^ i)=if x+c%128*128 ^ i>2000000000 then 0 else zag (x+c%128*128 ^ i):=by
  exact AM7
 rcases h8:decide (x+c%128*128 ^ i>2000000000) with _ | _<;>rcases h9:c==0 with _ | _<;>rcases h10:decide ((i:Int)>0) with _ | _<;>simp only[go_sem,h7,h8,h9,h10]
 case' false.false.false | false.false.true | false.true.false =>
  have h8':¬ x+c%128*128 ^ i>2000000000:=by simpa using h8
  rw[aZ (by simp at h9 h10; omega)] at hg
  refine AAT _ (pq _) fun _=>?_
  simp only[go_sem,hw2,hwe]
  rw[hz,aZ h8',← hg]
  exact AM6
 all_goals
  rw[bu (by simp at h8 h9 h10; omega)] at hg
  rw[← hg]
  exact AM6
theorem F5 (l:List Int):LG 1 (l.map byteC)=true:=aP.2 fun r hr=>by
 obtain⟨x,_,rfl⟩:=kN.1 hr
 rfl
theorem F6 (l:List Int) (h:l.length≤2147483648):Ctr prog 234 [.c (.sl (l.map byteC))] [.own 5 1 (l.map byteC) true]:=by
 refine CM call234 func234 ntmps234 results234 fun hw=>?_
 simp only[go_sem,F5,ae,h,aI,Bv]
 try exact AIj
def Y3 (n:Int):List Int:=if EL n=true then FH n else []
theorem Ku (out:List Int) (c:Int):(out ++ [c]).map byteC=out.map byteC ++ [[.v (.int .u8 c)]]:=by simp[O8]
theorem vz (out:List Int) (c:Int):DI (out.map byteC ++ [[.v (.int .u8 c)]])=true:=by rw[← Ku]; exact Bv _
theorem ZQ:∀ (f:Nat) (x:Int),(iE f x).length≤f+1
 | 0,_=>aT _
 | f+1,x=>by
  rw[iE]
  split
  ·have:=ZQ f (x/128); simp; omega
  ·simp
theorem GR (b:List Int) (n:Int) (hl:b.length≤1048576):Ctr prog 335 [.c (.sl (b.map byteC)),.c (.v (.int .i64 (n)))] [.own 5 1 ((b++Y3 n).map byteC) true]:=by
 refine CM call335 func335 ntmps335 results335 fun hw=>?_
 have hl2:b.length≤2147483648:=AOh
 simp only[go_sem,F5,ae,hl2,aI]
 refine AAT _ (F6 b hl2) fun _=>?_
 simp only[go_sem,ae]
 refine AAT _ (NL _) fun _=>?_
 rcases h:EL n with _ | _
 ·simp only[go_sem,h,Y3,aC,aW,bI,Bv]
  try exact AIj
 have hn:=S_.1 h
 have hz:Y1 n=zig n:=by simp only[Y1,h,aX]
 have hz0:0≤zig n∧zig n<128 ^ 5:=Xg hn.1 hn.2
 simp only[go_sem,h]
 refine AAT _ (pY _) fun _=>?_
 rw[hz]
 simp only[go_sem,h]
 have hput:Y3 n=FH n:=by simp only[Y3,h,aX]
 rw[hput]
 refine AB6 [8] (A:=Nat×Int×List Int) (fun x=>[(6,.c (.v (.int .i64 (x.2.1)))),(5,.c (.ref 0))]) (fun x=>[⟨5,1,x.2.2.map byteC,true,true⟩]) (fun x=>x.1≤4∧0≤x.2.1∧x.2.1<128 ^ (x.1+1)∧x.2.2++iE x.1 x.2.1=b++FH n) (fun x=>x.1) (4,zig n,b) (AB3 [(0,false)] ⟨rfl,rfl,AY byteC.pure,trivial⟩ rfl) ⟨aT _,hz0.1,hz0.2,rfl⟩ ?_
 rintro⟨f,x,out⟩ ⟨hf,hx0,hx1,hb⟩
 dsimp only at hf hx0 hx1 hb
 have hol:out.length≤b.length+5:=by
  exact ANh
 have hol2:out.length+1≤2147483648:=AOh
 simp only[go_sem,ae]
 have hbig:x<34359738368:=by
  exact ANL
 rcases h1:decide (x≥128) with _ | _
 ·have h1':¬ x≥128:=by simp at h1; omega
  have hwx:IntKind.u8.wrap x=x:=wrap_u8 hx0 AOh
  have hpn:iE f x = [x]:=by
   cases f with
   | zero=>rfl
   | succ f=>rw[iE,aZ h1']
  rw[hpn] at hb
  rw[← hb,Ku]
  simp only[go_sem,bC,bU,h1,ae,hwx,hol2,aI,vz]
  try exact AIj
 ·exact AHZ
theorem J5 (b:List Int) (n:Int) (hl:b.length≤1048576):Ctr prog 329 [.c (.sl (b.map byteC)),.c (.v (.int .i64 (n)))] [.own 5 1 ((b++Y3 n).map byteC) true]:=by
 refine CM call329 func329 ntmps329 results329 fun hw=>?_
 have hl2:b.length≤2147483648:=AOh
 simp only[go_sem,F5,ae,hl2,aI]
 refine AAT _ (Jj _) fun _=>?_
 rcases h:EL n with _ | _
 ·simp only[go_sem,h,Y3,aC,aW,bI,Bv]
  try exact AIj
 have hn:=S_.1 h
 have hz:Y1 n=zig n:=by simp only[Y1,h,aX]
 have hz0:0≤zig n∧zig n<128 ^ 5:=Xg hn.1 hn.2
 simp only[go_sem,h]
 refine AAT _ (pX _) fun _=>?_
 rw[hz]
 simp only[go_sem,h]
 have hput:Y3 n=FH n:=by simp only[Y3,h,aX]
 rw[hput]
 refine AB6 [9,7] (A:=Nat×Int×List Int) (fun x=>[(6,.c (.v (.int .i64 (x.2.1)))),(5,.c (.ref 0))]) (fun x=>[⟨5,1,x.2.2.map byteC,true,true⟩]) (fun x=>x.1≤4∧0≤x.2.1∧x.2.1<128 ^ (x.1+1)∧x.2.2++iE x.1 x.2.1=b++FH n) (fun x=>x.1) (4,zig n,b) (AB3 [(1,false)] ⟨rfl,rfl,AY byteC.pure,trivial⟩ rfl) ⟨aT _,hz0.1,hz0.2,rfl⟩ ?_
 rintro⟨f,x,out⟩ ⟨hf,hx0,hx1,hb⟩
 dsimp only at hf hx0 hx1 hb
 have hol:out.length≤b.length+5:=by
  exact ANh
 have hol2:out.length+1≤2147483648:=AOh
 simp only[go_sem,ae]
 have hbig:x<34359738368:=by
  exact ANL
 rcases h1:decide (x>127) with _ | _
 ·have h1':¬ x≥128:=by simp at h1; omega
  have hwx:IntKind.u8.wrap x=x:=wrap_u8 hx0 AOh
  have hpn:iE f x = [x]:=by
   cases f with
   | zero=>rfl
   | succ f=>rw[iE,aZ h1']
  rw[hpn] at hb
  rw[← hb,Ku]
  simp only[go_sem,bC,bU,h1,ae,hwx,hol2,aI,vz]
  try exact AIj
 ·exact AHZ
theorem lL:∀ f:Nat,Gm f 0=0
 | 0=>rfl
 | f+1=>by rw[Gm,aZ AOh]
theorem JK (n:Int):Ctr prog 415 [.c (.v (.int .i64 (n)))] [.val (.c (.v (.int .i64 (Aq n))))]:=by
 refine CM call415 func415 ntmps415 results415 fun hw=>?_
 simp only[go_sem]
 refine AAT _ (AP _ _ _) fun _=>?_
 rcases h:Aa n 0 2147483647 with _ | _
 ·have:¬ (0≤n∧n≤2147483647):=by simp[Aa] at h; omega
  simp only[go_sem,h,Aq,aZ this]
 have hn:0≤n∧n≤2147483647:=by simp[Aa] at h; omega
 simp only[go_sem,h,Aq,bu hn]
 refine AB4 0 (A:=Nat×Int×Int) (fun x=>[(4,.c (.v (.int .i64 (x.2.1)))),(3,.c (.v (.int .i64 (x.2.2))))]) (fun _=>[]) (fun x=>0≤x.2.1∧x.2.1<2 ^ x.1∧x.1≤32∧0≤x.2.2∧x.2.2+x.1≤32∧x.2.2+Gm x.1 x.2.1=Gm 32 n) (fun x=>x.1) (32,n,0) ⟨⟨rfl,rfl⟩,rfl,AOl,AOl,AOl,AOl,AOl,AOi⟩ ?_
 rintro⟨f,x,c⟩ ⟨hx0,hx1,hf,hc0,hc1,hb⟩
 dsimp only at hx0 hx1 hf hc0 hc1 hb
 refine AOb (fun h=>?_) fun h=>?_
 ·have h':x>0:=by simpa using h
  cases f with
  | zero=>simp at hx1; omega
  | succ f =>
  have hxx:x<4294967296:=by
   have:(2:Int) ^ (f+1)≤2 ^ 32:=APj
   omega
  rw[Gm,bu h'] at hb
  have e1:IntKind.i64.wrap (x.tdiv 2)=x/2:=by rw[di AOh,wrap_i64 AOh AOh]
  simp only[go_sem,e1,wrap_i64 (n:=c+1) AOh AOh]
  exact⟨(f,x/2,c+1),⟨rfl,rfl⟩,rfl,⟨AOl,by simp only; rw[aa9] at hx1; omega,AOl,AOl,AOl,AOl⟩,AOl⟩
 ·have h':x=0:=by simp at h; omega
  subst h'
  rw[lL] at hb
  simp only[go_sem]
  rw[← hb]; simp
theorem RU:∀ (f:Nat) (x:Int),0≤Gm f x
 | 0,_=>xZ _
 | f+1,x=>by
  have:=RU f (x/2)
  rw[Gm]
  split<;>omega
theorem TA:∀ (f g:Nat) (x:Int),x<2 ^ f→Gm (f+g) x=Gm f x
 | 0,g,x,h=>by
  have h':¬ x>0:=AOs
  cases g with
  | zero=>rfl
  | succ g=>rw[uX]; show Gm (g+1) x=0; rw[Gm,aZ h']
 | f+1,g,x,h=>by
  rw[show f+1+g=(f+g)+1 from AOh,Gm,Gm]
  split
  ·rw[TA f g (x/2) (by rw[aa9] at h; omega)]
  ·rfl
theorem ZR (f:Nat):∀ (s:Nat) (x:Int),x≥2 ^ s→Gm (f+s) x=Gm f (x/2 ^ s)+s
 | 0,x,h=>AOi
 | s+1,x,h=>by
  have hp:(0:Int)<2 ^ s:=Int.pow_pos AOh
  rw[aa9] at h
  rw[show f+(s+1)=(f+s)+1 from AOh,Gm,bu AOh,ZR f s (x/2) AOh,Int.ediv_ediv_of_nonneg AOh,aa9,Int.mul_comm 2]
  omega
theorem pz (T:ByteArray) (hs:T.size=256) (h:(List.range 256).all (fun y=>(T.data.toList.getD y 0).toNat==(Gm 8 (y:Int)).toNat)=true) (y:Nat) (hy:y<256):∃ c:UInt8,T[y]?=some c∧(c.toNat:Int)=Gm 8 y:=by
 have h1:=aP.1 h y (abm.2 hy)
 have hlt:y<T.size:=AOh
 refine⟨T[y],getElem?_pos T y hlt, ?_⟩
 have h2:T.data.toList.getD y 0=T[y]:=by
  rw[List.getD_eq_getElem?_getD,Array.getElem?_toList,getElem?_pos T.data y hlt]; rfl
 rw[h2] at h1
 simp only[ZE] at h1
 have:=RU 8 (y:Int)
 omega
@[go_sem] theorem ALZ:((8:Int)<0)=False:=AOi
@[go_sem] theorem ALQ:((16:Int)<0)=False:=AOi
@[go_sem] theorem ALR:Int.toNat 8=8:=rfl
@[go_sem] theorem AK2:Int.toNat 16=16:=rfl
@[go_sem] theorem m8:min 8 64=8:=rfl
@[go_sem] theorem m16:min 16 64=16:=rfl
theorem wrap_u64 {n:Int} (h:0≤n) (h2:n<18446744073709551616):IntKind.u64.wrap n=n:=Ko (by
 simp only[Lit.wf,ay,bf]
 simp[IntKind.min,IntKind.max,IntKind.bits,IntKind.signed]
 omega)
theorem zf (x:Nat) (h0:1≤x) (h:x<2147483648):Ctr prog 470 [.c (.v (.int .u64 (x:Int)))] [.val (.c (.v (.int .i64 (Gm 32 (x:Int)))))]:=by
 refine CM call470 func470 ntmps470 results470 fun hw=>?_
 have h1:decide ((x:Int)≥4294967296)=false:=AOj
 have s8:IntKind.u64.wrap ((x:Int).fdiv (2 ^ 8))=((x/256:Nat):Int):=APG
 have s16:IntKind.u64.wrap ((x:Int).fdiv (2 ^ 16))=((x/65536:Nat):Int):=APG
 have s24:IntKind.u64.wrap ((((x/65536:Nat):Int)).fdiv (2 ^ 8))=((x/16777216:Nat):Int):=APG
 have w8 (y:Nat) (hy:y<256):IntKind.u8.wrap (y:Int)=y:=wrap_u8 AOh AOh
 have hwl (y:Nat) (hy:y<256):0≤Gm 8 (y:Int)∧Gm 8 (y:Int)≤8:=by
  refine⟨RU _ _, ?_⟩
  have key:∀ (f:Nat) (x:Int),Gm f x≤f:=by
   intro f
   induction f with
   | zero=>intro x; exact xZ _
   | succ f ih=>intro x; have:=ih (x/2); rw[Gm]; split<;>omega
  exact key 8 _
 rcases h2:decide ((x:Int)≥65536) with _ | _
 ·rcases h3:decide ((x:Int)≥256) with _ | _
  ·have hx:x<256:=by simp at h3; omega
   simp only[go_sem,h1,h2,h3,w8 x hx]
   generalize hT:(ByteArray.mk _)=T
   obtain⟨c,hc,hcn⟩:=pz T (by rw[← hT]; rfl) AQF x hx
   have:=hwl x hx
   simp only[go_sem,Oo,hc,hcn]
   have e:Gm 32 (x:Int)=Gm 8 x:=TA 8 24 _ AOh
   simp only[Int.zero_add]
   rw[wrap_i64 (n:=Gm 8 (x:Int)) AOh AOh,wrap_i64 AOh AOh,e]
  ·have hx:x/256<256:=by simp at h2; omega
   simp only[go_sem,h1,h2,h3,s8,w8 _ hx]
   generalize hT:(ByteArray.mk _)=T
   obtain⟨c,hc,hcn⟩:=pz T (by rw[← hT]; rfl) AQF _ hx
   have:=hwl _ hx
   simp only[go_sem,Oo,hc,hcn]
   have e:Gm 32 (x:Int)=Gm 8 ((x/256:Nat):Int)+8:=by
    rw[show (32:Nat)=24+8 from rfl,ZR 24 8 _ APX,show (x:Int)/2 ^ 8=((x/256:Nat):Int) from AOh,show (24:Nat)=8+16 from rfl,TA 8 16 _ AOh]; rfl
   simp only[Int.zero_add]
   rw[wrap_i64 (n:=Gm 8 _) AOh AOh,wrap_i64 (n:=8) AOh AOh,wrap_i64 AOh AOh,e,Int.add_comm]
 ·rcases h3:decide (((x/65536:Nat):Int)≥256) with _ | _
  ·have hx:x/65536<256:=by simp at h3; omega
   simp only[go_sem,h1,h2,h3,s16,w8 _ hx]
   generalize hT:(ByteArray.mk _)=T
   obtain⟨c,hc,hcn⟩:=pz T (by rw[← hT]; rfl) AQF _ hx
   have:=hwl _ hx
   simp only[go_sem,Oo,hc,hcn]
   have e:Gm 32 (x:Int)=Gm 8 ((x/65536:Nat):Int)+16:=by
    rw[show (32:Nat)=16+16 from rfl,ZR 16 16 _ AOw,show (x:Int)/2 ^ 16=((x/65536:Nat):Int) from AOh,show (16:Nat)=8+8 from rfl,TA 8 8 _ AOh]; rfl
   simp only[Int.zero_add]
   rw[wrap_i64 (n:=Gm 8 _) AOh AOh,wrap_i64 (n:=16) AOh AOh,wrap_i64 AOh AOh,e,Int.add_comm]
  ·have hx:x/16777216<256:=by omega
   simp only[go_sem,h1,h2,h3,s16,s24,w8 _ hx]
   generalize hT:(ByteArray.mk _)=T
   obtain⟨c,hc,hcn⟩:=pz T (by rw[← hT]; rfl) AQF _ hx
   have:=hwl _ hx
   simp only[go_sem,Oo,hc,hcn]
   have e:Gm 32 (x:Int)=Gm 8 ((x/16777216:Nat):Int)+24:=by
    rw[show (32:Nat)=8+24 from rfl,ZR 8 24 _ APX,show (x:Int)/2 ^ 24=((x/16777216:Nat):Int) from AOh]; rfl
   simp only[Int.zero_add]
   rw[wrap_i64 (n:=Gm 8 _) AOh AOh,wrap_i64 (n:=16) AOh AOh,wrap_i64 (n:=16+8) AOh AOh,wrap_i64 AOh AOh,e,show (16:Int)+8=24 from rfl,Int.add_comm]
theorem AEZ (x:Nat) (h0:1≤x) (h:x<2147483648):Ctr prog 454 [.c (.v (.int .u64 (x:Int)))] [.val (.c (.v (.int .i64 (Gm 32 (x:Int)))))]:=by
 refine CM call454 func454 ntmps454 results454 fun hw=>?_
 simp only[go_sem]
 have e1:IntKind.u64.wrap (x:Int)=x:=Ko (by simp only[Lit.wf,ay,bf]; simp[IntKind.min,IntKind.max,IntKind.bits,IntKind.signed]; omega)
 try simp only[e1]
 refine AAT _ (zf x h0 h) fun _=>?_
 exact AIk
theorem LH (n:Int):Ctr prog 422 [.c (.v (.int .i64 (n)))] [.val (.c (.v (.int .i64 (Aq n))))]:=by
 refine CM call422 func422 ntmps422 results422 fun hw=>?_
 simp only[go_sem]
 refine AAT _ (AL _ _ _) fun _=>?_
 rcases h:Aa n 1 2147483647 with _ | _
 ·have:Aq n=0:=by
   unfold Aq
   split
   ·have:n=0:=by simp[Aa] at h; omega
    subst this
    exact lL _
   ·rfl
  simp only[go_sem,h,this]
 have hn:1≤n∧n≤2147483647:=by simp[Aa] at h; omega
 obtain⟨m,rfl⟩:=aO (show 0≤n from AOh)
 have e1:IntKind.u64.wrap (m:Int)=m:=Ko (by simp only[Lit.wf,ay,bf]; simp[IntKind.min,IntKind.max,IntKind.bits,IntKind.signed]; omega)
 simp only[go_sem,h,e1]
 refine AAT _ (AEZ m AOh AOh) fun _=>?_
 simp only[go_sem,Aq]
 rw[bu AOh]
theorem fU (k w:Int):Ctr prog 452 [.c (.v (.int .i64 (k))),.c (.v (.int .i64 (w)))] [.val (.c (.v (.int .i64 (Ff k w))))]:=by
 refine CM call452 func452 ntmps452 results452 fun hw=>?_
 simp only[go_sem]
 refine AAT _ (AL _ _ _) fun _=>?_
 rcases h:Aa k 0 64 with _ | _
 ·exact ANz
 simp only[go_sem,h]
 refine AAT _ (AL _ _ _) fun _=>?_
 exact AIh
theorem fV (k w:Int):Ctr prog 450 [.c (.v (.int .i64 (k))),.c (.v (.int .i64 (w)))] [.val (.c (.v (.int .i64 (Ff k w))))]:=by
 refine CM call450 func450 ntmps450 results450 fun hw=>?_
 simp only[go_sem]
 refine AAT _ (AP _ _ _) fun _=>?_
 rcases h:Aa k 0 64 with _ | _
 ·exact ANz
 simp only[go_sem,h]
 refine AAT _ (AP _ _ _) fun _=>?_
 exact AIh
theorem YU (b:List Int) (n:Int) (hb:Ad b) (hl:b.length≤1048576) (hn:n≤1000000000):Ctr prog 453 [.c (.sl (b.map byteC)),.c (.v (.int .i64 (n)))] [.val (.c (.v (.int .i64 (FM b n))))]:=by
 refine CM call453 func453 ntmps453 results453 fun hw=>?_
 rcases h0:decide (n<0) with _ | _
 rotate_left
 ·have:n<0:=by simpa using h0
  simp only[go_sem,h0,FM,bu this]
 have hn0:0≤n:=APU
 obtain⟨m,rfl⟩:=aO hn0
 have e1:IntKind.i64.wrap ((m:Int).tdiv 8)=((m/8:Nat):Int):=AOy
 have e2:IntKind.i64.wrap ((m:Int).tmod 8)=((m%8:Nat):Int):=AO6
 have hba:FM b (m:Int)=match b[m/8]? with | some c=>c/2 ^ (m%8)%2 | none=>0:=by
  exact AM4
 rw[hba]
 rcases h1:decide (((m/8:Nat):Int)≥(b.length:Int)) with _ | _
 rotate_left
 ·exact AOA
 have hlt:m/8<b.length:=APg
 obtain⟨c0,c1⟩:=hb _ (ax hlt)
 rw[au hlt]
 generalize hc:b[m/8]=c at c0 c1
 simp only[go_sem,h0,h1,e1,e2,ae,AA _ hlt,hc]
 have hP:0≤c/2 ^ (m%8):=Int.ediv_nonneg AOh (aaU AOh)
 have hP2:c/2 ^ (m%8)≤c:=Int.ediv_le_self _ AOh
 rw[aaK _ (aaU AOh)]
 rw[show min (m%8) 8=m%8 from AOh,wrap_u8 hP AOh,AH7 hP AOh,wrap_u8 AOh AOh,wrap_i64 AOh AOh]
theorem YV (b:List Int) (n:Int) (hb:Ad b) (hl:b.length≤1048576) (hn:n≤1000000000):Ctr prog 451 [.c (.sl (b.map byteC)),.c (.v (.int .i64 (n)))] [.val (.c (.v (.int .i64 (FM b n))))]:=by
 refine CM call451 func451 ntmps451 results451 fun hw=>?_
 rcases h0:decide (n<0) with _ | _
 rotate_left
 ·have:n<0:=by simpa using h0
  simp only[go_sem,h0,FM,bu this]
 have hn0:0≤n:=APU
 obtain⟨m,rfl⟩:=aO hn0
 have e1:IntKind.i64.wrap ((m:Int).tdiv 8)=((m/8:Nat):Int):=AOy
 have e2:IntKind.i64.wrap ((m:Int).tmod 8)=((m%8:Nat):Int):=AO6
 have hba:FM b (m:Int)=match b[m/8]? with | some c=>c/2 ^ (m%8)%2 | none=>0:=by
  exact AM4
 rw[hba]
 rcases h1:decide (((m/8:Nat):Int)≥(b.length:Int)) with _ | _
 rotate_left
 ·exact AOA
 have hlt:m/8<b.length:=APg
 obtain⟨c0,c1⟩:=hb _ (ax hlt)
 rw[au hlt]
 generalize hc:b[m/8]=c at c0 c1
 simp only[go_sem,h0,h1,e1,e2,ae,AA _ hlt,hc]
 rw[wrap_i64 (n:=c) AOh AOh]
 have hP:0≤c/2 ^ (m%8):=Int.ediv_nonneg AOh (aaU AOh)
 have hP2:c/2 ^ (m%8)≤c:=Int.ediv_le_self _ AOh
 rw[aaK _ (aaU AOh)]
 rw[show min (m%8) 64=m%8 from AOh,wrap_i64 (n:=c/2 ^ (m%8)) AOh AOh,AG2 hP AOh,wrap_i64 AOh AOh]
theorem fZ (l:List Int) (hl:l.length≤1048576):Ctr prog 439 [.c (.sl (l.map intC))] [.val (.c (.v (.int .i64 (DL l))))]:=by
 refine CM call439 func439 ntmps439 results439 fun hw=>?_
 simp only[go_sem,ae]
 refine AB4 0 (A:=Nat×Int) (fun x=>[(8,.c (.v (.int .i64 (x.1)))),(3,.c (.v (.int .i64 (x.2))))]) (fun _=>[]) (fun x=>x.1≤l.length∧(l.drop x.1).foldl (fun w n=>max w (Aq n)) x.2=DL l) (fun x=>l.length-x.1) (0,0) ⟨⟨rfl,rfl⟩,rfl,az _,rfl⟩ ?_
 rintro⟨i,w⟩ ⟨hi,hb⟩
 dsimp only at hi hb
 refine AOc (fun h=>?_) fun h=>?_
 ·have hi':i<l.length:=by simpa using h
  rw[aG hi',abC] at hb
  simp only[go_sem,ae,AA _ hi']
  refine AAT _ (LH _) fun _=>?_
  simp only[go_sem,ae,wrap_i64 (n:=(i:Int)+1) AOh AOh]
  have hm:(if w<Aq l[i] then Aq l[i] else w)=max w (Aq l[i]):=by split<;>omega
  exact⟨(i+1,if w<Aq l[i] then Aq l[i] else w),⟨rfl,rfl⟩,rfl,⟨hi',by simp only; rw[hm]; exact hb⟩,AOl⟩
 ·exact ANT
theorem f_ (l:List Int) (hl:l.length≤1048576):Ctr prog 431 [.c (.sl (l.map intC))] [.val (.c (.v (.int .i64 (DL l))))]:=by
 refine CM call431 func431 ntmps431 results431 fun hw=>?_
 simp only[go_sem,ae]
 refine AB4 0 (A:=Nat×Int) (fun x=>[(4,.c (.v (.int .i64 (x.1)))),(3,.c (.v (.int .i64 (x.2))))]) (fun _=>[]) (fun x=>x.1≤l.length∧(l.drop x.1).foldl (fun w n=>max w (Aq n)) x.2=DL l) (fun x=>l.length-x.1) (0,0) ⟨⟨rfl,rfl⟩,rfl,az _,rfl⟩ ?_
 rintro⟨i,w⟩ ⟨hi,hb⟩
 dsimp only at hi hb
 refine AOc (fun h=>?_) fun h=>?_
 ·have hi':i<l.length:=by simpa using h
  rw[aG hi',abC] at hb
  simp only[go_sem,ae,AA _ hi']
  refine AAT _ (JK _) fun _=>?_
  rcases h2:decide (Aq l[i]>w) with _ | _
  ·have h2':Aq l[i]≤w:=by simpa using h2
   simp only[go_sem,h2,ae,wrap_i64 (n:=(i:Int)+1) AOh AOh]
   exact⟨(i+1,w),⟨rfl,rfl⟩,rfl,⟨hi',by simp only; rw[← hb,Int.max_eq_left h2']⟩,AOl⟩
  ·have h2':w≤Aq l[i]:=by simp at h2; omega
   simp only[go_sem,h2,ae,AA _ hi']
   refine AAT _ (JK _) fun _=>?_
   simp only[go_sem,h2,ae,wrap_i64 (n:=(i:Int)+1) AOh AOh]
   exact⟨(i+1,Aq l[i]),⟨rfl,rfl⟩,rfl,⟨hi',by simp only; rw[← hb,Int.max_eq_right h2']⟩,AOl⟩
 ·exact ANT
end Go.Proofs.YtnoldekcdlaahaaGreat
