/- A part. -/
import Derived.Test.YtdagmocgcanknaaGreatYt
set_option linter.unusedSimpArgs false
set_option linter.unusedVariables false
set_option maxHeartbeats 4000000
set_option maxRecDepth 100000
open Go.Proofs.Tryz
namespace Go.Proofs.YtdagmocgcanknaaGreat
open Go.Proofs Go.Shelf Go.RowKit Go.Lib Go.Sort
theorem MK {w:World} {blk off:Nat} {d:Array DVal} (h:HoldsK ER 3 w blk off d) {i:Nat} (hi:i<d.size) :
  w.cell? ⟨blk,off+i*3,none⟩=some (.int .i64 d[i]!.ty)/\w.cell? ⟨blk,off+i*3+1,none⟩=some (.int .i64 d[i]!.n)/\w.cell? ⟨blk,off+i*3+2,none⟩=some (.string d[i]!.s):=
 ⟨(HoldsK.cell h hi (show 0<3 from Go.Vm.AOl)).1,(HoldsK.cell h hi (show 1<3 from Go.Vm.AOl)).1,(HoldsK.cell h hi (show 2<3 from Go.Vm.AOl)).1⟩
theorem qC {w:World} {blk off:Nat} {d:Array DVal} (h:HoldsK ER 3 w blk off d) {i:Nat} (hi:i<d.size) :
  w.frozen? ⟨blk,off+i*3,none⟩=false/\w.frozen? ⟨blk,off+i*3+1,none⟩=false/\w.frozen? ⟨blk,off+i*3+2,none⟩=false:=
 ⟨(HoldsK.cell h hi (show 0<3 from Go.Vm.AOl)).2,(HoldsK.cell h hi (show 1<3 from Go.Vm.AOl)).2,(HoldsK.cell h hi (show 2<3 from Go.Vm.AOl)).2⟩
theorem wG (d:Array DVal) (i:Nat) (hi:i<d.size) (x:DVal):setMany (flatK ER 3 d) (i*3) (ER x)=flatK ER 3 (d.setIfInBounds i x):=by
 refine ext_get! Go.Vm.AOm fun t ht=>?_;have ht':t<d.size*3:=by simpa using ht
 rw[get_setMany _ _ _ t (by simpa using ht'),get_flatK _ _ d t ht',get_flatK _ _ (d.setIfInBounds i x) t (by simpa using ht')];show (if i*3<=t/\t<i*3+3 then _ else _)=_;by_cases e:t/3=i
 .rw[if_pos Go.Vm.AOl];subst e;rw[getElem!_set_same _ _ _ hi,show t-t/3*3=t%3 from Go.Vm.AOl]
 .rw[if_neg Go.Vm.AOl];congr 2;have hlt:t/3<d.size:=Go.Vm.AOl;simp[Array.getElem!_eq_getD,Array.getD,Array.getElem_setIfInBounds,Ne.symm e,hlt]
theorem wH {w wr:World} {q blk off:Nat} {dk:Array DVal} (hwr:wr=putRowK ER 3 (Sort.ahead w q) blk off dk) {i:Nat} (hi:i<dk.size) (x:DVal) :
  (wr.setCells blk (off+i*3) (ER x)).drew=putRowK ER 3 (Sort.ahead w (q+1)) blk off (dk.setIfInBounds i x):=by
 rw[hwr]
 unfold putRowK
 rw[setCells_putRow _ _ _ _ _ _ (by simp[ER]; omega),wG dk i hi x]
 rfl
theorem ACP {w:World} {blk off:Nat} {dk:Array DVal} (h:HoldsK ER 3 w blk off dk) {i n c:Nat} {ty:TypeId} (hi:i+n=dk.size) (hn:0<n) :
  ∃ zs:List Value,zs.length=n*3/\(Builtin.clear_ #[111] ty #[.slice (some ⟨blk,off+i*3,none⟩) n c]).run prog w = .ok (.tuple #[]) (w.setCells blk (off+i*3) zs):=by
 refine⟨(Builtin.zeroCells #[.int .i64 0,.int .i64 0,.string ⟨#[]⟩] n).toList,by simp[Builtin.zeroCells], ?_⟩
 have hst:=stores_of_holds prog h (i*3) (Builtin.zeroCells #[.int .i64 0,.int .i64 0,.string ⟨#[]⟩] n).toList (by simp[Builtin.zeroCells,size_flatK]; omega) (by
  intro v hv;simp only[Builtin.zeroCells,Array.toList_map,List.mem_map] at hv;obtain⟨t,_,rfl⟩:=hv;have h3:t%3<3:=Nat.mod_lt _ Go.Vm.AOl;show (#[Value.int .i64 0,Value.int .i64 0,Value.string ⟨#[]⟩][t%3]!).oneCell'=true;rcases(show t%3=0\/t%3=1\/t%3=2 from Go.Vm.AOl) with e | e | e<;>rw[e]<;>rfl)
 obtain⟨m,rfl⟩:∃ m,n=m+1:=⟨n-1,Go.Vm.AOl⟩
 have hz:=zeroValue112
 simp[Builtin.clear_,run_underlying underlying111,hz,Value.cells,hst]
theorem qE (blk off cap:Nat) (d:Array DVal) (w:World) (hH:HoldsK ER 3 w blk off d) (hsz:d.size<=1048576) (hcap:d.size<=cap) :
  Calls prog 370 #[.slice (some ⟨blk,off,none⟩) d.size cap] w fun e w'=>e = .returned (.slice (some ⟨blk,off,none⟩) (compactUpTo d d.size).length cap)/\∃ q F,w'=putRow id (Sort.ahead w q) blk off F/\F.size=d.size*3/\∀ j,j<(compactUpTo d d.size).length->∀ c,c<3->F[j*3+c]! = (ER (compactUpTo d d.size)[j]!)[c]!:=by
 have same:∀ q,(∀ j,j<d.size->keeps d j=true)->(compactUpTo d d.size).length=d.size/\∃ F,w.drewN q=putRow id (Sort.ahead w q) blk off F/\F.size=d.size*3/\∀ j,j<(compactUpTo d d.size).length->∀ c,c<3->F[j*3+c]! = (ER (compactUpTo d d.size)[j]!)[c]!:=by
  intro q hall;have e:compactUpTo d d.size=d.toList:=by rw[compactUpTo_all d _ hall,range_map_get]
  rw[e];refine⟨Go.Vm.AOm,flatK ER 3 d,(putRow_self id (Sort.ahead w q) blk off _ (holds_ahead id w q blk off _ hH)).symm,Go.Vm.AOm,fun j hj c hc=>?_⟩;have hj':j<d.size:=by simpa using hj
  rw[get_flatK _ _ _ _ Go.Vm.AOl,show (j*3+c)/3=j from Go.Vm.AOl,show (j*3+c)%3=c from Go.Vm.AOl];congr 2;simp[hj']
 have HS:Aside _:=same
 clear same
 have mixed:prog.follows .mixedOrders=true:=by kernel_rfl
 have aE:=isAgg112
 have zE:=sizeOf112
 by_cases h2:d.size<2
 .have HH:Aside _:=hH
  clear hH
  go_enter func370,ntmps370
  go_wp2
  go_ret
  obtain⟨e1,F,e2,e3,e4⟩:=HS.out 0 (fun j hj=>keeps_lt_one d j Go.Vm.AOl)
  exact⟨by rw[e1]; rfl,0,F,e2,e3,e4⟩
 .go_enter func370,ntmps370
  go_wp2
  go_loopg [3] d.size (fun g s3 wr=>∃ k q:Nat,1<=k/\k<=d.size/\d.size-k<=g/\s3 = .int .i64 k/\wr=w.drewN q/\∀ j,j<k->keeps d j=true)
  case atStart=>exact⟨1,0,Nat.le_refl _,Go.Vm.AOl,Go.Vm.AOl,rfl,rfl,keeps_lt_one d⟩
  case round =>
   obtain⟨k,q,hk1,hk,hg,rfl,rfl,hall⟩:=hrel
   by_cases hlt:k<d.size
   .obtain⟨c10,c11,c12⟩:=MK hH hlt
    obtain⟨c00,c01,c02⟩:=MK hH (show k-1<d.size from Go.Vm.AOl)
    have A:Aside (∀ j,j<k->keeps d j=true):=hall
    have HH:Aside _:=hH
    clear hall hH
    generalize hx:d[k]! = x at c10 c11 c12
    generalize hy:d[k-1]! = y at c00 c01 c02
    have B:Aside (d[k]! = x/\d[k-1]! = y):=⟨hx,hy⟩
    clear hx hy
    have hgd:=fun(op:BinOp) (a b:Operand) (w:World)=>AHn op a b x y w
    have heq:=fun(w:World)=>AK1 x y w
    by_cases hdup:x=y
    .subst hdup
     simp only[decide_true] at heq
     obtain⟨xt,xn,xs⟩:=x
     simp only[ER] at hgd heq
     go_wp2_with fail
     go_region_o
     go_wp2
     clear c10 c11 c12 c00 c01 c02 hgd heq
     go_loopg [3,5] d.size (fun g s3 s5 wr=>∃ (kk k2 q2:Nat) (dk:Array DVal),s3 = .int .i64 kk/\s5 = .int .i64 k2/\1<=k2/\k+k2<=d.size/\d.size-(k+k2)<=g/\wr=putRowK ER 3 (Sort.ahead w q2) blk off dk/\CompInv d (k+k2) kk dk)
     case atStart=>exact⟨k,1,q+1,d,rfl,rfl,Nat.le_refl _,Go.Vm.AOl,Go.Vm.AOl,(putRowK_self ER 3 (Sort.ahead w (q+1)) blk off d (holdsK_ahead ER 3 w (q+1) blk off d HH.out)).symm,CompInv.start A.out (keeps_neg Go.Vm.AOl (by rw[B.out.1,B.out.2]))⟩
     case round =>
      obtain⟨kk,k2,q2,dk,rfl,rfl,h1,hle,hg2,hwr,hI⟩:=hrel
      have hkk:=hI.lt
      have hds:=hI.size
      have hHk:HoldsK ER 3 wr blk off dk:=by rw[hwr]; exact holdsK_putRowK ER 3 _ blk off d dk (holdsK_ahead ER 3 w q2 blk off d HH.out) hds
      have W2:Aside (wr=putRowK ER 3 (Sort.ahead w q2) blk off dk):=hwr
      have I2:Aside (CompInv d (k+k2) kk dk):=hI
      clear hwr
      by_cases hlt2:k+k2<d.size
      .obtain⟨m0,m1,m2⟩:=MK hHk (show k+k2<dk.size from Go.Vm.AOl)
       obtain⟨p0,p1,p2⟩:=MK hHk (show k+k2-1<dk.size from Go.Vm.AOl)
       obtain⟨k0,k1,k3⟩:=MK hHk (show kk<dk.size from Go.Vm.AOl)
       obtain⟨f0,f1,f2⟩:=qC hHk (show kk<dk.size from Go.Vm.AOl)
       rw[hI.high (k+k2) Go.Vm.AOl,show off+(k+k2)*3=off+k*3+k2*3 from Go.Vm.AOl] at m0 m1 m2
       rw[hI.high (k+k2-1) Go.Vm.AOl,show off+(k+k2-1)*3=off+k*3+(k2-1)*3 from Go.Vm.AOl] at p0 p1 p2
       clear hI
       have HHk:Aside _:=hHk
       clear hHk
       generalize hu:d[k+k2]! = u at m0 m1 m2
       generalize hv:d[k+k2-1]! = v at p0 p1 p2
       generalize dk[kk]! = old at k0 k1 k3
       have C:Aside (d[k+k2]! = u/\d[k+k2-1]! = v):=⟨hu,hv⟩
       clear hu hv
       have hgd:=fun(op:BinOp) (a b:Operand) (w:World)=>AHn op a b u v w
       have hne:=fun(w:World)=>AK2 u v w
       by_cases huv:u=v
       .subst huv
        simp only[decide_true] at hne
        obtain⟨ut,un,us⟩:=u
        simp only[ER] at hgd hne
        go_wp2_with fail
        go_region_o
        go_wp2
        go_roundg (d.size-(k+(k2+1)))
        case measure=>omega
        case rel=>exact⟨kk,k2+1,q2+1,dk,rfl,by go_num,Go.Vm.AOl,Go.Vm.AOl,Nat.le_refl _,by rw[W2.out]; rfl,I2.out.skip (keeps_neg Go.Vm.AOl (by rw[C.out.1,C.out.2]))⟩
       .simp only[huv,decide_false] at hne
        have CC:Aside (u≠v):=huv
        clear huv
        have hst:=wH W2.out (show kk<dk.size from Go.Vm.AOl) u
        have HST:Aside _:=hst
        clear hst
        obtain⟨ut,un,us⟩:=u
        obtain⟨vt,vn,vs⟩:=v
        simp only[ER] at hgd hne
        go_wp2_with fail
        go_region_o
        go_wp2
        go_roundg (d.size-(k+(k2+1)))
        case measure=>omega
        case rel=>exact⟨kk+1,k2+1,q2+1,dk.setIfInBounds kk ⟨ut,un,us⟩,by go_num,by go_num,Go.Vm.AOl,Go.Vm.AOl,Nat.le_refl _,HST.out,by have:=I2.out.keep hlt2 (keeps_pos (by rw[C.out.1,C.out.2]; exact CC.out)); rwa [C.out.1] at this⟩
      .have hend:k+k2=d.size:=by omega
       have HHk:Aside _:=hHk
       have hcl:=fun ty=>ACP (ty:=ty) (c:=cap-kk) hHk (show kk+(d.size-kk)=dk.size from Go.Vm.AOl) Go.Vm.AOl
       clear hHk hI
       obtain⟨zs,hz1,hz2⟩:∃ zs:List Value,zs.length=(d.size-kk)*3/\∀ ty,(Builtin.clear_ #[111] ty #[.slice (some ⟨blk,off+kk*3,none⟩) (d.size-kk) (cap-kk)]).run prog wr = .ok (.tuple #[]) (wr.setCells blk (off+kk*3) zs):=by obtain⟨zs,q1,q2⟩:=hcl 0;exact⟨zs,q1,fun _=>q2⟩
       clear hcl
       go_wp2
       go_ret
       have hI:=I2.out
       rw[hend] at hI
       refine⟨by rw[hI.len]; rfl,q2,setMany (flatK ER 3 dk) (kk*3) zs, ?_,by simp[hds],fun j hj c hc=>?_⟩
       .rw[W2.out]
        unfold putRowK
        exact setCells_putRow _ _ _ _ _ _ (by simp[hz1,hds]; omega)
       .rw[hI.len] at hj
        rw[get_setMany _ _ _ _ (by simp[hds]; omega),if_neg Go.Vm.AOl,get_flatK _ _ _ _ Go.Vm.AOl,show (j*3+c)/3=j from Go.Vm.AOl,show (j*3+c)%3=c from Go.Vm.AOl]
        have:=hI.low j hj
        rw[getElem!_pos (compactUpTo d d.size) j (by rw[hI.len]; exact hj)]
        rw[List.getElem?_eq_getElem (by rw[hI.len]; exact hj)] at this
        rw[Option.some.inj this]
    .simp only[hdup,decide_false] at heq
     have BB:Aside (x≠y/\d[k]! = x/\d[k-1]! = y):=⟨hdup,B.out⟩
     clear hdup B
     obtain⟨xt,xn,xs⟩:=x
     obtain⟨yt,yn,ys⟩:=y
     simp only[ER] at hgd heq
     go_wp2_with fail
     go_region_o
     go_wp2
     go_roundg (d.size-(k+1))
     case measure=>omega
     case rel =>
      refine⟨k+1,q+1,Go.Vm.AOl,Go.Vm.AOl,Nat.le_refl _,by go_num,rfl,fun j hj=>?_⟩
      by_cases e:j=k
      .subst e
       exact keeps_pos (by rw[BB.out.2.1,BB.out.2.2]; exact BB.out.1)
      .exact A.out j Go.Vm.AOl
   .have:k=d.size:=by omega
    subst this
    have HH:Aside _:=hH
    clear hH
    go_wp2
    go_ret
    obtain⟨e1,F,e2,e3,e4⟩:=HS.out q hall
    exact⟨by rw[e1]; rfl,q,F,e2,e3,e4⟩
