/- Texts that the proof needs: A107. -/
import Derived.Test.YtjmjamhhppoimaaGreatQisA49
namespace Go.Proofs.YtjmjamhhppoimaaGreat.V
open V.Enc (enc)
open Go.RowKit G D
set_option linter.unusedVariables false
set_option linter.unusedSimpArgs false
set_option maxHeartbeats 4000000
set_option maxRecDepth 4000
attribute [local irreducible] AW ARg ARA ARet MRet ASil AC AM ARI
theorem l4Inverse_a(p:Int)(n:Nat)(f:Nat→Nat→Int)(hF:isF p=true)(hn:n≤8)(hb:BdF p n n f)(hk:(redK p n f n).2.length=n):AC Tryz.prog 276 [.i p,.agg (enc false (tm n n f))] [.agg (enc true (tm n n (invF p n f))),.b true]:=by
 refine AC.go Tryz.func276 Tryz.ntmps276 rfl rfl fun w0 hw=>?_;simp[WfL,WfA,E_length,Enc.enc,In64] at hw
 have hp:=isF_pos hF
 have hZ:=l3ZeroT_a n n (by omega) (by omega)
 have hS:=fun k (h:k<n)=>l4Solve_a p n n f (unitL n k) hF (by omega) (by omega) hb (unitL_len n k) (fun i hi=>by rw[unitL_get hi];split<;>omega)
 have hsol:=fun k (h:k<n)=>inv_sol hF hb hk h
 have hcg:∀k,k<n→(rowsL n n fun k i=>invF p n f i k).getD k default=rowL n fun i=>invF p n f i k:=fun k h=>rowsL_get _ _ h
 have hcl:=rowsL_len n n fun k i=>invF p n f i k
 have f0:=fcK_zero (rowsL n n fun k i=>invF p n f i k)
 have fs:=fun k m=>fcK_set (rowsL n n fun k i=>invF p n f i k) k m
 have fn:=fun k=>fcK_next (rowsL n n fun k i=>invF p n f i k) k n n
 have fa:=fcK_all (rowsL n n fun k i=>invF p n f i k) n
 have e:tab n n (fcF (rowsL n n fun k i=>invF p n f i k))=tab n n (invF p n f):=tab_ext fun i hi j hj=>by
  unfold fcF
  rw[hcg j hj,rowL_get _ hi]
 rw[hcl] at fa
 rw[e] at fa
 clear e
 generalize (rowsL n n fun k i=>invF p n f i k)=CL at*
 generalize fcK CL=FK at*
 repeat' first|refine s1 ?_|refine q1 ?_|(refine kR ?_;first|refine F.c (hZ) ?_)|fail
 rw[←f0]
 refine AW.freezeP (α:=Mat) (oo:=false) (tm n n f) 3 rfl rfl ?_
 refine F.loop (σ:=Nat) [5,7,8,9,10,11,23,24,25,26,27,28,29,30,31,32,33,34,35,36,37,38,39,40,41,42,43,44,45,46,47,48,49,50,51,52,53,54,55,56,57,58,59,60,61,62,63] (fun k=>[(7,.i k)]) (fun k=>[(2,.live false 1 (E true (tab n n (FK k 0))))]) (fun k=>k≤n) (fun k=>n-k) 0 ⟨rfl,trivial⟩ ⟨rfl,trivial⟩ (Nat.zero_le _) ?_
 rintro k k1
 by_cases h:k<n
 ·have hSk:=hS k h
  rw[hsol k h] at hSk
  dsimp only at hSk
  rw[show unitL n k=(List.replicate n 0).set (0+k) 1 by rw[Nat.zero_add];rfl] at hSk
  have hck:=hcg k h
  have hrl:=rowL_len n fun i=>invF p n f i k
  have hrg:∀i,i<n→(rowL n fun i=>invF p n f i k).getD i default=invF p n f i k:=fun i hi=>rowL_get _ hi
  generalize (rowL n fun i=>invF p n f i k)=X at hSk hck hrl hrg
  repeat' first|refine s1 ?_|refine q1 ?_|(refine kR ?_;first|refine F.mk (m:=n) Int rfl rfl rfl (mkB (by omega)) (by omega) rfl rfl ?_)|fail
  repeat' first|refine s1 ?_|refine q1 ?_|(refine kR ?_;first|refine F.c (hSk) ?_)|fail
  refine AW.freezeA (α:=Int) 9 rfl rfl rfl ?_
  refine F.loop (σ:=Nat) [11,45,46,47,48,49,50,51,52,53,54,55,56,57,58,59,60,61,62,63] (fun i=>[(11,.i i)]) (fun i=>[(2,.live false 1 (E true (tab n n (FK k i))))]) (fun i=>i≤n) (fun i=>n-i) 0 ⟨rfl,trivial⟩ ⟨rfl,trivial⟩ (Nat.zero_le _) ?_
  rintro i i1
  by_cases hi:i<n
  ·obtain⟨t1,t2⟩:=tab_in (i:=i) (j:=k) (r:=n) (c:=n) hi h (by omega) (by omega)
   have fsi:=fs k i
   rw[hck] at fsi
   generalize FK k i=G0 at fsi⊢
   repeat' first|refine s1 ?_|refine q1 ?_|fail
   refine AW.draw 13 G.mixed (by kernel_rfl) ?_
   refine Pz (.p 0<|.l 1<|.p 2<|.p 3<|.l 4<|.p 5<|.p 6<|.p 7<|.p 8<|.p 9<|.p 10<|.l 11<|.p 12<|.o 13 false<|.n) ?_
   repeat' first|refine ySQ ?_|refine s1 ?_|refine q1 ?_|fail
   any_goals refine lf ?_
   all_goals
    repeat' first|refine s1 ?_|refine q1 ?_|fail
    exact⟨i+1,F.fit ⟨rfl,trivial⟩ ⟨obE (by rw[←fsi]),trivial⟩,by omega,by omega⟩
  ·obtain rfl:i=n:=by omega
   rw[fn k]
   repeat' first|refine s1 ?_|refine q1 ?_|fail
   exact⟨k+1,F.fit ⟨rfl,trivial⟩ ⟨rfl,trivial⟩,by omega,by omega⟩
 ·obtain rfl:k=n:=by omega
  rw[fa]
  repeat' first|refine s1 ?_|refine q1 ?_|fail
  (refine kZ ?_;exact F.ret rfl)
end Go.Proofs.YtjmjamhhppoimaaGreat.V
