/- Part 8 of what the proofs of these rest on: All. -/
import Derived.Test.YtihpkgmfkbkffaaGreatYC
import Derived.Test.YtihpkgmfkbkffaaGreatYB
import Derived.Test.YtihpkgmfkbkffaaGreatIter
import Derived.Test.YtihpkgmfkbkffaaGreatShelf
import Derived.Test.YtihpkgmfkbkffaaGreatYF
import Derived.Test.YtihpkgmfkbkffaaGreatYG
set_option linter.unusedVariables false
set_option linter.unusedSimpArgs false
set_option linter.unusedSectionVars false
section
namespace Go.Proofs.YtihpkgmfkbkffaaGreat.Sx
open Go Go.Sx Go.Pl
variable[aq]
open Go.Maps Go.Proofs Go.RowKit in
omit [aq] in
theorem Fs(m:Nat):AnyZI.SortsIn Tryz.prog Tryz.sortedI_ren Fence.wide m:=
 ⟨fun blk off cap ss W hH hblk hsz=>callsIn_wide.2 (Tryz.slices_Sort_int blk off cap ss W hH hblk hsz),fun p cap W=>callsIn_wide.2 (Tryz.slices_Sort_int_none p cap W)⟩
open Go.Maps Go.Proofs Go.RowKit in
theorem GZ{b:Nat}{hs:List Chunk}:ax Tryz.prog 81 [.map (some b)] hs fun v' hs'=>∃bx,v'= .func (.func 125) ⟨[]⟩ ⟨[.pointer (some ⟨bx,0,none⟩)]⟩/\hs'=[(bx,blk [.map (some b)] 108 (0,0))]::hs:=
 Gu (fun mb w=>(callsIn_wide (n:=5)).1 (AnyZI.keys_in Tryz.keysI Fence.wide 5 trivial rfl mb w))
open Go.Maps Go.Proofs Go.RowKit in
theorem CL{m:Int->Option Value}{b bx:Nat}{M:Chunk}(hM:IsMap m b M){N:Nat}(hN:∀z,m z≠none->0<=z/\z<N)(OQ:N<=4096){hs:List Chunk}:
 ax Tryz.prog 80 [.func (.func 125) ⟨[]⟩ ⟨[.pointer (some ⟨bx,0,none⟩)]⟩] ([(bx,blk [.map (some b)] 108 (0,0))]::M::hs) fun v' hs'=>∃H,hs'=H::[(bx,blk [.map (some b)] 108 (0,0))]::M::hs/\Own Go.Sx.cZ 1 3 v' (cN m N) H:=by
 refine xF (tK:=3) Tryz.underlying3 (fun b nn bx D0 w hlt hcell hown hsz=> ?_) hM hN OQ
 have hseq:SeqGives Fence.wide 2 Tryz.prog 125 #[.pointer (some ⟨bx,0,none⟩)] encZ (fun ss=>ss.Perm (intKeys D0)) (Maps.size D0) w:=
  AnyZI.keys_gives (ρ:=Tryz.keysI_ren) {Tryz.keysI with} Fence.wide _ trivial rfl (by omega) bx b nn D0 _ hlt hcell hown
 refine(callsIn_wide (n:=5)).1 ((AnyZI.sorted_in Tryz.sortedI Fence.wide 5 trivial trivial trivial trivial rfl (by omega) (Fs _) (enters_of Tryz.func124 kr rfl) 125 #[.pointer (some ⟨bx,0,none⟩)] trivial (enters_of Tryz.func125 kr rfl) _ _ (Nat.le_trans hsz (by decide)) (by omega) _ hseq).mono ?_)
 rintro e w' ⟨v,ss,h1,h2,h3,h4,h5⟩
 exact⟨v,ss,h1,h2,h3,h4,h5⟩
end Go.Proofs.YtihpkgmfkbkffaaGreat.Sx
end
section
namespace Go.Proofs.YtihpkgmfkbkffaaGreat.Sx
open Go Go.Sx Go.Pl
variable[aq]
omit [aq] in
theorem Dr:qV Tryz.prog 108 9 (.string ⟨#[]⟩):=⟨⟨3,Tryz.underlying108,Tryz.underlying3⟩,Tryz.zeroValue9⟩
set_option maxHeartbeats 1000000 in
set_option maxRecDepth 100000 in
theorem xZ{v:Value}{xs:List UInt8}{hs:List Chunk}(hr:Row Go.Sx.bD 1 hs v xs)(hl:xs.length<=1073741824):ax Tryz.prog 126 [v] hs (fun v' hs'=>∃H',hs'=H'::hs/\Own Go.Sx.bD 1 5 v' xs H'):=by
 refine ax.enter 8 Tryz.func126 rfl Tryz.ntmps126 rfl ?_
 obtain⟨a0,c0,hv⟩:=hr.len
 subst hv
 refine TT.seq (.region (.U hT 1 rfl (.nil (.seq (.seq (.seq (.region (.U hT 2 rfl (.nil (.seq (.cond rfl (fun c4=> ?_) (fun c4=> ?_))))))))))))
 .
  obtain rfl:a0=none:=by cases a0 with|none=>rfl|some x=>cases c4
  have hx:=hr.AZ
  refine TT.seq (.region (.U hT 1 rfl (.nil (.seq (.ret (.of (rs:=[.tmp 2]) [_] ([]::hs) rfl (.tmp rfl .nil) sl ?_))))))
  try dsimp only[one]
  exact⟨_,rfl,by rw[hx];exact Own.nil⟩
 .
  refine TT.skip (.seq (.seq (.region ?_)))
  refine OT.buildSlice (enc:=Go.Sx.bD) (xs:=([]:List UInt8)) (ij:=[]) lq rfl rfl rfl rfl rfl (by intro v hv;cases hv) (by intro v hv;cases hv) rfl (by decide) rfl (fun Ou Xa Qx=> ?_)
  refine OT.U hT 1 rfl ?_
  refine OT.append hT lq rfl rfl rfl rfl pl Qx hr.there (zL _) (by simp only[List.length_nil];omega) rfl (fun C9 US Qy=> ?_)
  refine OT.U hT 1 rfl (.nil (.seq (.ret (.of (rs:=[.tmp 2]) [_] (US::hs) rfl (.tmp rfl .nil) sl ?_))))
  try dsimp only[one]
  exact⟨_,rfl,Qy⟩
set_option maxHeartbeats 1000000 in
set_option maxRecDepth 100000 in
theorem zo{ti:Nat}{ui:Value}{I:Chunk->Prop}{H:Chunk}{r:List Chunk}(hI:I H):ax Tryz.prog 15 [.iface ti ui] (H::r) (fun v' hs'=>∃b H',v'= .pointer (some ⟨b,0,none⟩)/\hs'=H'::r/\iu 110 b (.iface ti ui) I (fun _=>none) H'):=by
 refine ax.enter 7 Tryz.func15 rfl Tryz.ntmps15 rfl ?_
 refine TT.seq (.region (.U hT 1 rfl (.nil (.seq (.seq (.region (.U hT 1 rfl (.makeMap rfl rfl (fun nG RZ Qz=> ?_)))))))))
 refine OT.build (cs:=[.iface ti ui,.map (some nG)]) hT rfl Tryz.zeroValue110 rfl rfl rfl rfl (.box rfl rfl rfl (fun gB=> ?_))
 refine OT.U hT 1 rfl (.nil (.seq (.ret (.of (rs:=[.tmp 2]) [_] ((([(gB,blk [.iface ti ui,.map (some nG)] 110 (0,0))]++RZ)++H)::r) rfl (.tmp rfl .nil) sl ?_))))
 try dsimp only[one]
 exact⟨gB,_,rfl,rfl,nG,RZ,H,rfl,Qz,gp.none,hI⟩
set_option maxHeartbeats 1000000 in
set_option maxRecDepth 100000 in
theorem En{b:Nat}{no:Int}{hs:List Chunk}:ax Tryz.prog 154 [.pointer (some ⟨b,0,none⟩),.int .i64 no] hs (fun v' hs'=>v'= .int .i64 (if aF no then 0 else 3)/\hs=hs'):=by
 refine ax.enter 15 Tryz.func154 rfl Tryz.ntmps154 rfl ?_
 refine TT.seq (.region (.U hT 1 rfl (.nil (.seq (.seq (.block (.seq (.region (.U hT 3 rfl (.nil (.seq (.cond_false rfl (.seq (.region (.U hT 3 rfl (.split 11 rfl (fun uk=> ?_) (fun uk=> ?_)))))))))))))))))
 .
  have uk:=of_decide_eq_true uk
  refine OT.U hT 4 rfl (.nil (.seq (.cond_true rfl (.seq (.region (.U hT 1 rfl (.nil (.seq (.ret (.of (rs:=[.tmp 4]) [_] hs rfl (.tmp rfl .nil) sl ?_))))))))))
  try dsimp only[one]
  exact⟨int_eq (by rw[if_neg (by unfold aF;omega)]),rfl⟩
 .
  have uk:=of_decide_eq_false uk
  refine OT.U hT 4 rfl (.nil (.seq (.cond rfl (fun c8=> ?_) (fun c8=> ?_))))
  .
   have c8:=of_decide_eq_true c8
   refine TT.seq (.region (.U hT 1 rfl (.nil (.seq (.ret (.of (rs:=[.tmp 4]) [_] hs rfl (.tmp rfl .nil) sl ?_))))))
   try dsimp only[one]
   exact⟨int_eq (by rw[if_neg (by unfold aF;omega)]),rfl⟩
  .
   have c8:=of_decide_eq_false c8
   refine TT.skip (.blk (.seq (.seq (.region (.U hT 1 rfl (.nil (.seq (.ret (.of (rs:=[.tmp 4]) [_] hs rfl (.tmp rfl .nil) sl ?_)))))))))
   try dsimp only[one]
   exact⟨int_eq (by rw[if_pos (by unfold aF;omega)]),rfl⟩
set_option maxHeartbeats 1000000 in
set_option maxRecDepth 100000 in
theorem xu{b:Nat}{P:Value}{I:Chunk->Prop}{E:Int->Chunk->Prop}{Qb:ah}(hP:cM Tryz.prog 5 P I E (aI Qb))(hQ:cC Qb){bd:Bool}{m:oO}{H:Chunk}{r:List Chunk}(hH:iu 110 b P (St I E bd) m H){no:Int}(hno:aF no):ax Tryz.prog 82 [.pointer (some ⟨b,0,none⟩),.int .i64 no] (H::r) (fun v' hs'=>∃mF H' K w e bs,hs'=H'::K::r/\v'= .tuple ⟨[w,.int .i64 e]⟩/\Own Go.Sx.bD 1 5 w bs K/\iu 110 b P (St I E mF) m H'/\LL (0,Qb no) bd mF e bs):=by
 refine ax.enter 27 Tryz.func82 rfl Tryz.ntmps82 rfl ?_
 obtain⟨mb,M,G,rfl,hM,yU,hG⟩:=hH.is
 obtain⟨ti,ui,rfl⟩:=hP.iface
 refine TT.split (TT.split ?_)
 have C6:aI Qb no=(0,Qb no):=by unfold aI;rw[if_pos hno]
 unfold aF at hno
 refine TT.seq (.region (.U hT 2 rfl (.nil (.seq (.seq (.seq (.region (.U hT 3 rfl (.load rfl rfl (Ld.one hT rfl hz rfl) rfl ?_)))))))))
 refine OT.U hT 1 rfl (.nil (.seq (.cond_false rfl (.skip (.seq (.seq (.region (.U hT 3 rfl (.load rfl rfl (Ld.one hT rfl hz rfl) rfl ?_)))))))))
 refine OT.U hT 1 rfl (.M6 hP rfl rfl rfl rfl pl hG (by omega) (by omega) (fun Iq vC VZ V0 JK Ir nA Eo s3=> ?_))
 rw[C6]at s3
 obtain⟨R1,uo,rfl⟩:=(nA.row (hs:=[])).len
 refine OT.U hT 5 rfl (.nil (.seq (.seq (.seq (.region (.U hT 2 rfl (.nil (.seq (.cond rfl (fun yq=> ?_) (fun yq=> ?_))))))))))
 .
  have yq:JK≠0:=by simpa using yq
  refine TT.seq (.region (.U hT 3 rfl (.nil (.seq (.ret (.of (rs:=[.tmp 4,.tmp 5]) [_,_] ((([(b,blk [.iface ti ui,.map (some mb)] 110 (0,0))]++M)++vC)::[]::r) rfl (.tmp rfl (.tmp rfl .nil)) sl ?_))))))
  try dsimp only[one]
  exact⟨Iq,_,[],_,JK,[],rfl,rfl,Own.nil,⟨mb,M,vC,rfl,hM,yU,Eo⟩,s3.stay,fun h=>absurd h yq,fun h=>⟨(s3.good h).1,fun he=>absurd he yq,fun _=>rfl⟩,fun h1 h2=>⟨yq,rfl⟩⟩
 .
  have yq:JK=0:=by simpa using yq
  refine TT.skip (.seq (.seq (.region (.U hT 1 rfl (.call Tryz.call126 rfl rfl rfl rfl (xZ (xs:=Ir) (nA.row.pull pl).there (by have:=s3.len yq;omega)) ?_)))))
  rintro Dn DP ⟨HC,rfl,nj⟩
  refine OT.U hT 2 rfl (.nil (.seq (.ret (.of (rs:=[.tmp 4,.tmp 5]) [_,_] ((([(b,blk [.iface ti ui,.map (some mb)] 110 (0,0))]++M)++vC)::HC::r) rfl (.tmp rfl (.tmp rfl .nil)) sl ?_))))
  try dsimp only[one]
  exact⟨Iq,_,HC,_,0,Ir,rfl,rfl,nj,⟨mb,M,vC,rfl,hM,yU,Eo⟩,by rw[yq]at s3;exact s3⟩
set_option maxHeartbeats 1000000 in
set_option maxRecDepth 100000 in
theorem Ft{b:Nat}{P:Value}{I:Chunk->Prop}{E:Int->Chunk->Prop}{Qb:ah}(hP:cM Tryz.prog 5 P I E (aI Qb))(hQ:cC Qb){bd:Bool}{m:oO}{H:Chunk}{r:List Chunk}(hH:iu 110 b P (St I E bd) m H){no:Int}:ax Tryz.prog 234 [.pointer (some ⟨b,0,none⟩),.int .i64 no] (H::r) (fun v' hs'=>∃mF H' K w e bs,hs'=H'::K::r/\v'= .tuple ⟨[w,.int .i64 e]⟩/\Own Go.Sx.bD 1 5 w bs K/\iu 110 b P (St I E mF) m H'/\LL (aI (de Qb m) no) bd mF e bs):=by
 refine ax.enter 32 Tryz.func234 rfl Tryz.ntmps234 rfl ?_
 obtain⟨mb,M,G,rfl,hM,yU,hG⟩:=hH.is
 obtain⟨ti,ui,rfl⟩:=hP.iface
 refine TT.split (TT.split ?_)
 refine TT.seq (.region (.U hT 2 rfl (.nil (.seq (.seq (.seq (.region (.U hT 2 rfl (.call Tryz.call154 rfl rfl rfl rfl (En) ?_)))))))))
 rintro oH iV ⟨rfl,rfl⟩
 refine OT.U hT 1 rfl (.nil (.seq (.seq (.region (.U hT 2 rfl (.nil (.seq (.cond rfl (fun gm=> ?_) (fun gm=> ?_)))))))))
 .
  have hno:¬aF no:=fun h=>by rw[if_pos h]at gm;cases gm
  refine TT.seq (.region (.U hT 3 rfl (.nil (.seq (.ret (.of (rs:=[.tmp 4,.tmp 5]) [_,_] ((([(b,blk [.iface ti ui,.map (some mb)] 110 (0,0))]++M)++G)::[]::r) rfl (.tmp rfl (.tmp rfl .nil)) sl ?_))))))
  try dsimp only[one]
  rw[if_neg hno]
  exact⟨bd,_,[],_,3,[],rfl,rfl,Own.nil,⟨mb,M,G,rfl,hM,yU,hG⟩,fun h=>h,fun h=>(by cases h),fun _=>⟨by unfold aI;rw[if_neg hno],fun h=>(by cases h),fun _=>rfl⟩,fun h1 h2=>(by rw[h1]at h2;cases h2)⟩
 .
  have hno:aF no:=Decidable.byContradiction fun h=>by rw[if_neg h]at gm;cases gm
  have C6:aI (de Qb m) no=(0,de Qb m no):=by unfold aI;rw[if_pos hno]
  refine TT.skip (.seq (.seq (.seq (.region (.U hT 3 rfl (.load rfl rfl (Ld.one hT rfl hz rfl) rfl ?_))))))
  refine OT.U hT 1 rfl (.BZ Dr rfl rfl rfl pl hM rfl ?_)
  refine OT.U hT 5 rfl (.nil (.seq (.seq (.region (.U hT 1 rfl (.nil (.seq (.cond rfl (fun mG=> ?_) (fun mG=> ?_)))))))))
  .
   obtain⟨x,hx⟩:∃x,m no=some x:=by
    cases hx:m no with
    |none=>unfold fI at mG;rw[hx]at mG;cases mG
    |some x=>exact⟨x,rfl⟩
   have hgd:(fI m no).getD (.string ⟨#[]⟩)= .string ⟨⟨x⟩⟩:=by unfold fI;rw[hx];rfl
   refine TT.eH 7 rfl hgd ?_
   have FQ:=(yU no x hx).2
   refine TT.seq (.region (.U hT 1 rfl (.uJ hT rfl rfl rfl rfl rfl rfl (fun Dn vD gM=> ?_))))
   refine OT.U hT 2 rfl (.nil (.seq (.ret (.of (rs:=[.tmp 4,.tmp 5]) [_,_] ((([(b,blk [.iface ti ui,.map (some mb)] 110 (0,0))]++M)++G)::vD::r) rfl (.tmp rfl (.tmp rfl .nil)) sl ?_))))
   try dsimp only[one]
   exact⟨bd,_,_,_,0,x,rfl,rfl,gM,⟨mb,M,G,rfl,hM,yU,hG⟩,fun h=>h,fun _=>by rw[FQ];decide,fun _=>⟨by rw[C6],fun _=>by rw[C6];unfold de;rw[hx];rfl,fun h=>absurd rfl h⟩,fun h1 h2=>(by rw[h1]at h2;cases h2)⟩
  .
   have hx:m no=none:=by
    cases hx:m no with
    |none=>rfl
    |some x=>unfold fI at mG;rw[hx]at mG;cases mG
   refine TT.skip (.seq (.seq (.region (.U hT 2 rfl (.call Tryz.call82 rfl rfl rfl rfl (ax.join (ax.join (xu hP hQ hH hno))) ?_)))))
   rintro qJ pH ⟨Pu,H1,K1,w1,e1,oP,rfl,rfl,dU,dz,L3⟩
   refine OT.U hT 4 rfl (.nil (.seq (.ret (.of (rs:=[.tmp 4,.tmp 5]) [_,_] (H1::K1::r) rfl (.tmp rfl (.tmp rfl .nil)) sl ?_))))
   try dsimp only[one]
   have hl:de Qb m no=Qb no:=by unfold de;rw[hx];rfl
   exact⟨Pu,H1,K1,w1,e1,oP,rfl,rfl,dU,dz,by rw[C6,hl];exact L3⟩
theorem b_{b:Nat}{P:Value}{I:Chunk->Prop}{E:Int->Chunk->Prop}{Qb:ah}(hP:cM Tryz.prog 5 P I E (aI Qb))(hQ:cC Qb){Qt:ah}:cM Tryz.prog 5 (.iface 24 (.pointer (some ⟨b,0,none⟩))) (aM 110 b P I Qb Qt) (cD 110 b P E) (aI Qt):=by
 refine⟨24,.pointer (some ⟨b,0,none⟩),234,.pointer (some ⟨b,0,none⟩),rfl,fun w=>by kernel_rfl,Tryz.call234,fun bd no H r h1 h2 hS=> ?_⟩
 have hH:∃m',iu 110 b P (St I E bd) m' H/\(bd=false->Qt=de Qb m'):=by
  cases bd with
  |false=>obtain⟨m,h,h2⟩:=hS;exact⟨m,h,fun _=>h2⟩
  |true=>obtain⟨_,m',h⟩:=hS;exact⟨m',h,fun h=>(by cases h)⟩
 obtain⟨m',hH,hm⟩:=hH
 refine(Ft hP hQ hH).mono ?_
 rintro v' hs' ⟨mF,H',K,w,e,bs,rfl,rfl,ho,hs,hr⟩
 refine⟨mF,H',K,w,e,bs,rfl,rfl,ho,?_,hr.stay,hr.len,fun h=> ?_,hr.fail⟩
 . cases mF with
   |false=>cases bd with
    |false=>exact⟨m',hs,hm rfl⟩
    |true=>exact absurd (hr.stay rfl) (by simp)
   |true=>exact⟨0,m',hs⟩
 . have hb:bd=false:=by cases bd with
    |false=>rfl
    |true=>rw[hr.stay rfl]at h;cases h
   rw[hm hb];exact hr.good h
set_option maxHeartbeats 1000000 in
set_option maxRecDepth 100000 in
theorem Bp{b:Nat}{P:Value}{t u}(hv:P= .iface t u){J:Chunk->Prop}{m:oO}{H:Chunk}{r:List Chunk}(hH:iu 110 b P J m H){no:Int}{v:Value}{bs:List UInt8}(hr:Row Go.Sx.bD 1 r v bs)(hb:bs.length<=1073741824):ax Tryz.prog 109 [.pointer (some ⟨b,0,none⟩),.int .i64 no,v] (H::r) (fun v' hs'=>∃H',hs'=H'::r/\((¬aF no/\v'= .int .i64 3/\H'=H)\/(aF no/\bs.length≠256/\v'= .int .i64 1/\H'=H)\/(aF no/\bs.length=256/\v'= .int .i64 0/\iu 110 b P J (vq m no bs) H'))):=by
 refine ax.enter 24 Tryz.func109 rfl Tryz.ntmps109 rfl ?_
 obtain⟨mb,M,G,rfl,hM,yU,hG⟩:=hH.is
 subst hv
 refine TT.split (TT.split ?_)
 obtain⟨a0,c0,hv⟩:=hr.len
 subst hv
 refine TT.seq (.region (.U hT 1 rfl (.nil (.seq (.seq (.seq (.region (.U hT 2 rfl (.call Tryz.call154 rfl rfl rfl rfl (En) ?_)))))))))
 rintro oG jX ⟨rfl,rfl⟩
 refine OT.U hT 1 rfl (.nil (.seq (.seq (.region (.U hT 2 rfl (.nil (.seq (.cond rfl (fun ew=> ?_) (fun ew=> ?_)))))))))
 .
  have hno:¬aF no:=fun h=>by rw[if_pos h]at ew;cases ew
  refine TT.seq (.region (.U hT 2 rfl (.nil (.seq (.ret (.of (rs:=[.tmp 6]) [_] ((([(b,blk [.iface t u,.map (some mb)] 110 (0,0))]++M)++G)::r) rfl (.tmp rfl .nil) sl ?_))))))
  try dsimp only[one]
  exact⟨_,rfl,.inl ⟨hno,by rw[if_neg hno];rfl,rfl⟩⟩
 .
  have hno:aF no:=Decidable.byContradiction fun h=>by rw[if_neg h]at ew;cases ew
  refine TT.skip (.seq (.seq (.seq (.region (.U hT 3 rfl (.nil (.seq (.cond rfl (fun fy=> ?_) (fun fy=> ?_)))))))))
  .
   have fy:(bs.length:Int)≠256:=by simpa using fy
   refine TT.seq (.region (.U hT 1 rfl (.nil (.seq (.ret (.of (rs:=[.tmp 6]) [_] ((([(b,blk [.iface t u,.map (some mb)] 110 (0,0))]++M)++G)::r) rfl (.tmp rfl .nil) sl ?_))))))
   try dsimp only[one]
   exact⟨_,rfl,.inr (.inl ⟨hno,by omega,rfl,rfl⟩)⟩
  .
   have fy:(bs.length:Int)=256:=by simpa using fy
   refine TT.skip (.seq (.seq (.draw (([(b,blk [.iface t u,.map (some mb)] 110 (0,0))]::r)) mixed (.takes (fuel:=3) hT [0,1,2,4,5] kr kr rfl (.take (fuel:=2) hT 3 rfl rfl kr kr kr rfl (.load rfl (Ld.one hT rfl hz rfl)) rfl ?_)))))
   refine AT.conv (fuel:=1) 6 rfl kr kr kr hT rfl rfl rfl rfl rfl hr.there rfl (.op (fuel:=0) 7 kr rfl sl (.mapUpdate Dr rfl rfl rfl rfl pl hM (fun BQ nv=> ?_)))
   rw[show(Value.string ⟨⟨bs⟩⟩)= .string (IG bs)from rfl,EM]at nv
   refine OT.nil (.any (.done kr sl (.seq (.seq (.region (.U hT 1 rfl (.nil (.seq (.ret (.of (rs:=[.tmp 6]) [_] ((([(b,blk [.iface t u,.map (some mb)] 110 (0,0))]++BQ)++G)::r) rfl (.tmp rfl .nil) sl ?_))))))))))
   try dsimp only[one]
   exact⟨_,rfl,.inr (.inr ⟨hno,by omega,rfl,mb,BQ,G,rfl,nv,yU.eW hno (by omega),hG⟩)⟩
end Go.Proofs.YtihpkgmfkbkffaaGreat.Sx
end
section
namespace Go.Proofs.YtihpkgmfkbkffaaGreat.Sx
open Go Go.Sx Go.Pl
variable[aq]
set_option maxHeartbeats 2000000 in
set_option maxRecDepth 100000 in
theorem sr{b:Nat}{P:Value}{I:Chunk->Prop}{E:Int->Chunk->Prop}{Qb:ah}(hP:cM Tryz.prog 5 P I E (aI Qb))(hQ:cC Qb){bd:Bool}{m:oO}{H:Chunk}{r:List Chunk}(hH:iu 110 b P (St I E bd) m H):ax Tryz.prog 47 [.pointer (some ⟨b,0,none⟩)] (H::r) (fun v' hs'=>∃mF ts HI H',hs'=HI::H'::r/\qX 143 5 v' ts HI/\iu 110 b P (St I E mF) m H'/\(bd=true->mF=true)/\(mF=false->iM ts=yA Qb (de Qb m) 96)/\(∀x∈iM ts,aF x.1/\x.2.length=256)/\ts.length<=96):=by
 refine ax.enter 54 Tryz.func47 rfl Tryz.ntmps47 rfl ?_
 obtain⟨mb,M,G,rfl,hM,yU,hG⟩:=hH.is
 have RD:=hP
 obtain⟨ti,ui,rfl⟩:=hP.iface
 have ng:=EN m
 refine TT.split (TT.split ?_)
 refine TT.seq (.region (.U hT 1 rfl (.nil (.seq (.seq (.seq (.region (.U hT 2 rfl (.nil (.seq (.cond_false rfl (.skip (.seq (.seq (.region (.U hT 1 rfl (.nil (.seq (.seq (.seq (.region (.U hT 3 rfl (.load rfl rfl (Ld.one hT rfl hz rfl) rfl ?_)))))))))))))))))))))))
 refine OT.call Tryz.call81 rfl rfl rfl rfl (GZ) ?_
 rintro Dp wh ⟨bx,rfl,rfl⟩
 refine OT.call Tryz.call80 rfl rfl rfl rfl (ax.weaken sl (CL hM (Gx yU) (by decide))) ?_
 rintro Ds wq ⟨HK,rfl,oD⟩
 obtain⟨ak,ck,rfl⟩:=(oD.row (hs:=[])).len
 refine OT.U hT 2 rfl (.nil (.seq (.block (.iG (.iG (.loop (ι:=Nat×(List It)×Value×Chunk×Bool×Chunk) (fun j=>(j.1)<=(cN (fI m) 96).length/\(j.2.1).length<=(j.1)/\(∀u∈(j.2.1),Own Go.Sx.bD 1 5 u.1.v u.1.b u.2)/\Own qN 2 143 (j.2.2.1) ((j.2.1).map (·.1)) (j.2.2.2.1)/\iu 110 b (.iface ti ui) (St I E (j.2.2.2.2.1)) m (j.2.2.2.2.2)/\(bd=true->(j.2.2.2.2.1)=true)/\((j.2.2.2.2.1)=false->iM ((j.2.1).map (·.1))=((cN (fI m) 96).take (j.1)).filterMap (fun no=>if de Qb m no=Qb no then none else some (no,de Qb m no)))/\(∀x∈iM ((j.2.1).map (·.1)),aF x.1/\x.2.length=256)) (fun j=>(cN (fI m) 96).length-(j.1)) (fun j=>[(0,.pointer (some ⟨b,0,none⟩)),(3,(j.2.2.1)),(15,.slice ak (cN (fI m) 96).length ck),(16,.int .i64 ((cN (fI m) 96).length:Nat)),(17,.int .i64 ((j.1):Nat))]) (fun j=>(j.2.2.2.1)::gz (j.2.1)::HK::(j.2.2.2.2.2)::r) (0,[],.slice none 0 0,[],bd,(([(b,blk [.iface ti ui,.map (some mb)] 110 (0,0))]++M)++G)) ?_ (aa.cons rfl (aa.cons rfl (aa.cons rfl (aa.cons rfl (aa.cons rfl (aa.nil _)))))) (.empty (.empty sl)) ?_))))))
 . dsimp only
   exact⟨by omega,Nat.le_refl _,(by intro u hu;cases hu),Own.nil,hH,fun h=>h,fun _=>rfl,(by intro x hx;cases hx)⟩
 rintro⟨i,us,w,K,Pu,H1⟩ hI
 dsimp only at hI
 obtain⟨hin,Xb,Ll,hw,hS,Ow,Lt,hmay⟩:=hI
 show TT _ _ _ [(0,.pointer (some ⟨b,0,none⟩)),(3,w),(15,.slice ak (cN (fI m) 96).length ck),(16,.int .i64 ((cN (fI m) 96).length:Nat)),(17,.int .i64 (i:Nat))] (K::gz us::HK::H1::r)
 refine TT.seq (.region (.U hT 1 rfl (.nil (.seq (.seq (.cond rfl (fun gw=> ?_) (fun gw=> ?_)))))))
 .
  have gw:=of_decide_eq_true gw
  obtain⟨no,hno⟩:=nth (l:=cN (fI m) 96) (i:=i) (by omega)
  obtain⟨x,hx,hmp⟩:=Ka yU hno
  have FQ:=(yU no x hx).2
  have Pv:de Qb m no=x:=by unfold de;rw[hx];rfl
  have hgd:(fI m no).getD (.string ⟨#[]⟩)= .string ⟨⟨x⟩⟩:=by unfold fI;rw[hx];rfl
  refine TT.skip (.seq (.seq (.block (.seq (.region (.index hT rfl rfl rfl rfl oD.row.there.there (by omega) (by rw[Int.toNat_natCast];exact hno) rfl (fun ND zq=> ?_)))))))
  refine OT.load rfl rfl (zq.ct hT rfl rfl) rfl (.U hT 1 rfl (.nil (.seq (.seq (.region (.U hT 2 rfl (.call Tryz.call82 rfl rfl rfl rfl (ax.pull pl (xu RD hQ hS hmp)) ?_)))))))
  rintro BI sZ ⟨Pw,H2,K2,w2,e2,R2,rfl,rfl,oB,hU,kg⟩
  obtain⟨I2,M1,G1,rfl,Lu,JL,Px⟩:=hU.is
  refine OT.p4 (OT.p4 ?_)
  obtain⟨a2,c2,rfl⟩:=(oB.row (hs:=[])).len
  refine OT.U hT 5 rfl (.nil (.seq (.seq (.draw (([(b,blk [.iface ti ui,.map (some I2)] 110 (0,0))]::K2::r)) mixed (.takes (fuel:=10) hT [0,1,2] kr kr rfl (.split 29 rfl (fun FL=> ?_) (fun FL=> ?_)))))))
  .
   refine AT.takes (fuel:=0) hT [3,4,5,6,7,8,9,10,11,12] kr kr rfl (.done kr sl (.seq (.cond_true rfl (.region (.U hT 5 rfl (.load rfl rfl (Ld.one hT rfl hz rfl) rfl ?_))))))
   refine OT.U hT 1 rfl (.lookup Dr rfl rfl rfl pl Lu rfl ?_)
   refine OT.eH 47 rfl hgd (.uJ hT rfl rfl rfl rfl rfl rfl (fun JM Gf qS=> ?_))
   obtain⟨a8,c8,rfl⟩:=(qS.row (hs:=[])).len
   refine OT.build (cs:=[.int .i64 no,.slice a8 x.length c8]) hT rfl Tryz.zeroValue143 rfl rfl rfl rfl ?_
   refine OT.buildSlice (enc:=qN) (xs:=[(⟨no,.slice a8 x.length c8,x⟩:Im)]) (ij:=[.tmp 49]) AE rfl rfl rfl rfl rfl (by simp[Value.cells]) (fun _ _=>rfl) rfl (by decide) rfl (fun BK QA DX=> ?_)
   refine OT.append hT AE rfl rfl rfl rfl pl hw DX.row rfl (by simp only[List.length_cons,List.length_nil,List.length_map];omega) rfl (fun yM JN DY=> ?_)
   refine OT.U hT 1 rfl (.nil (.blk (.seq (.region (.U hT 2 rfl (.nil (.loop (i+1,us++[(⟨no,.slice a8 x.length c8,x⟩,Gf)],yM,JN,Pw,(([(b,blk [.iface ti ui,.map (some I2)] 110 (0,0))]++M1)++G1)) ?_ ?_ (aa.cons rfl (aa.cons rfl (aa.cons rfl (aa.cons rfl (aa.aD rfl (by(try dsimp only);exact(int_eq (by rw[wrap_i64 (by omega) (by omega)];omega))) (aa.nil _)))))) (by rw[od];exact sl))))))))
   . dsimp only
     refine⟨by omega,by rw[List.length_append];simp only[List.length_singleton];omega,?_,by rw[List.map_append];exact DY,⟨I2,M1,G1,rfl,Lu,JL,Px⟩,fun h=>kg.stay (Ow h),fun h=> ?_,?_⟩
     . exact wM Ll qS
     . have hg:=(kg.good h).1
       exact absurd hg (by simpa using FL)
     . exact wN hmay hmp FQ
   . dsimp only
     omega
  .
   have qE:e2=0:=by simpa using FL
   refine AT.takes (fuel:=5) hT [3,5,6,7,9] kr kr rfl (.take (fuel:=4) hT 8 rfl rfl kr kr kr rfl (.load rfl (Ld.one hT rfl hz rfl)) rfl ?_)
   refine AT.conv (fuel:=3) 4 rfl kr kr kr hT rfl rfl rfl rfl rfl oB.row.there rfl (.op (fuel:=2) 10 kr rfl sl (.lookup Dr rfl rfl rfl pl Lu rfl ?_))
   refine OT.eH 37 rfl hgd (.nil (.any (.takes (fuel:=0) hT [11,12] kr kr rfl (.done kr sl (.seq (.cond rfl (fun Dc=> ?_) (fun Dc=> ?_)))))))
   .
    refine TT.region (.U hT 5 rfl (.load rfl rfl (Ld.one hT rfl hz rfl) rfl ?_))
    refine OT.U hT 1 rfl (.lookup Dr rfl rfl rfl pl Lu rfl ?_)
    refine OT.eH 47 rfl hgd (.uJ hT rfl rfl rfl rfl rfl rfl (fun JM Gf qS=> ?_))
    obtain⟨a8,c8,rfl⟩:=(qS.row (hs:=[])).len
    refine OT.build (cs:=[.int .i64 no,.slice a8 x.length c8]) hT rfl Tryz.zeroValue143 rfl rfl rfl rfl ?_
    refine OT.buildSlice (enc:=qN) (xs:=[(⟨no,.slice a8 x.length c8,x⟩:Im)]) (ij:=[.tmp 49]) AE rfl rfl rfl rfl rfl (by simp[Value.cells]) (fun _ _=>rfl) rfl (by decide) rfl (fun BK QA DX=> ?_)
    refine OT.append hT AE rfl rfl rfl rfl pl hw DX.row rfl (by simp only[List.length_cons,List.length_nil,List.length_map];omega) rfl (fun yM JN DY=> ?_)
    refine OT.U hT 1 rfl (.nil (.blk (.seq (.region (.U hT 2 rfl (.nil (.loop (i+1,us++[(⟨no,.slice a8 x.length c8,x⟩,Gf)],yM,JN,Pw,(([(b,blk [.iface ti ui,.map (some I2)] 110 (0,0))]++M1)++G1)) ?_ ?_ (aa.cons rfl (aa.cons rfl (aa.cons rfl (aa.cons rfl (aa.aD rfl (by(try dsimp only);exact(int_eq (by rw[wrap_i64 (by omega) (by omega)];omega))) (aa.nil _)))))) (by rw[od];exact sl))))))))
    . dsimp only
      refine⟨by omega,by rw[List.length_append];simp only[List.length_singleton];omega,?_,by rw[List.map_append];exact DY,⟨I2,M1,G1,rfl,Lu,JL,Px⟩,fun h=>kg.stay (Ow h),fun h=> ?_,?_⟩
      . exact wM Ll qS
      . have vM:=A5 kg h
        rw[take_succ hno,List.filterMap_append,List.map_append,p6,<-Lt vM]
        congr 1
        have hg:=kg.good h
        exact(EO (by rw[Pv,show Qb no=R2 from(hg.2.1 qE).symm];exact Gz Dc) Pv).symm
      . exact wN hmay hmp FQ
    . dsimp only
      omega
   .
    refine TT.skip (.blk (.seq (.region (.U hT 2 rfl (.nil (.loop (i+1,us,w,K,Pw,(([(b,blk [.iface ti ui,.map (some I2)] 110 (0,0))]++M1)++G1)) ?_ ?_ (aa.cons rfl (aa.cons rfl (aa.cons rfl (aa.cons rfl (aa.aD rfl (by(try dsimp only);exact(int_eq (by rw[wrap_i64 (by omega) (by omega)];omega))) (aa.nil _)))))) sl))))))
    . dsimp only
      refine⟨by omega,by omega,Ll,hw,⟨I2,M1,G1,rfl,Lu,JL,Px⟩,fun h=>kg.stay (Ow h),fun h=> ?_,hmay⟩
      have vM:=A5 kg h
      rw[take_succ hno,List.filterMap_append,<-Lt vM]
      have hg:=kg.good h
      rw[B6 (by rw[Pv,show Qb no=R2 from(hg.2.1 qE).symm];exact Gy Dc)]
      rw[List.append_nil]
    . dsimp only
      omega
 .
  have gw:=of_decide_eq_false gw
  obtain rfl:i=(cN (fI m) 96).length:=by omega
  rw[List.take_length,B5]at Lt
  refine TT.exit (.seq (.loop (.here (.seq (.seq (.region (.U hT 2 rfl (.nil (.seq (.ret (.of (rs:=[.tmp 2]) [_] ((K++gz us)::H1::r) rfl (.tmp rfl .nil) sl ?_)))))))))))
  try dsimp only[one]
  exact⟨Pu,us.map Prod.fst,_,_,rfl,(⟨us,K,rfl,Ll,hw,rfl⟩:qX _ _ w _ _),hS,Ow,Lt,hmay,by rw[List.length_map];omega⟩
end Go.Proofs.YtihpkgmfkbkffaaGreat.Sx
end
section
namespace Go.Proofs.YtihpkgmfkbkffaaGreat.Sx
open Go Go.Sx Go.Pl
variable[aq]
set_option maxHeartbeats 1000000 in
set_option maxRecDepth 100000 in
theorem G0{P:Value}{I:Chunk->Prop}{E:Int->Chunk->Prop}{pg:Int->Int×List UInt8}{H:Chunk}{r:List Chunk}(hP:nC Tryz.prog 5 P I E pg)(hI:I H):ax Tryz.prog 133 [P] (H::r) (fun v' hs'=>∃H' no e,hs'=H'::r/\v'= .tuple ⟨[.int .i64 no,.int .i64 e]⟩/\((I H'/\(no,e)=iR (pg 1))\/(e≠0/\E e H'))):=by
 refine ax.enter 27 Tryz.func133 rfl Tryz.ntmps133 rfl ?_
 refine TT.seq (.region (.U hT 2 rfl (.nil (.seq (.seq (.region (.U hT 1 rfl (.call Tryz.call157 rfl rfl rfl rfl (m4 hP hI) ?_))))))))
 rintro IW yG ⟨H1,K1,w1,e1,oP,rfl,rfl,dU,m_⟩
 refine OT.U hT 5 rfl (.nil (.seq (.seq (.seq (.region (.U hT 2 rfl (.nil (.seq (.cond rfl (fun gm=> ?_) (fun gm=> ?_))))))))))
 .
  have gm:=bne_iff_ne.1 gm
  rcases m_ with⟨h,_⟩|⟨h,rfl,hq⟩
  . exact absurd h gm
  refine TT.seq (.region (.U hT 3 rfl (.nil (.seq (.ret (.of (rs:=[.tmp 2,.tmp 3]) [_,_] (H1::r) rfl (.tmp rfl (.tmp rfl .nil)) sl ?_))))))
  try dsimp only[one]
  rcases hq with⟨h1,h2⟩|h2
  . exact⟨H1,0,e1,rfl,rfl,.inl ⟨h2,by unfold iR;dsimp only;rw[if_pos (by rw[h1];exact gm),h1]⟩⟩
  . exact⟨H1,0,e1,rfl,rfl,.inr ⟨gm,h2⟩⟩
 .
  have gm:=bne_eq_false_iff_eq.1 gm
  rcases m_ with⟨rfl,hx,fS⟩|⟨h,_⟩
  rotate_left
  . exact absurd gm h
  have nB:=tY hx
  refine TT.skip (.seq (.seq (.region (.U hT 1 rfl ?_))))
  obtain⟨c4,R3⟩:=nth (l:=oP) (i:=4) (by omega)
  have js:rootOf oP=(c4.toNat:Int):=by unfold rootOf;rw[List.getD_eq_getElem?_getD,R3];rfl
  have V1:=c4.toNat_lt
  refine OT.index hT rfl rfl rfl rfl dU.row.there (by omega) (by exact R3) rfl (fun NF zu=> ?_)
  refine OT.load rfl rfl (zu.ct hT rfl rfl) rfl (.U hT 1 rfl (.eH 18 rfl (v:= .int .i64 (rootOf oP)) (int_eq (by rw[js,wrap_i64 (by omega) (by omega)])) (.U hT 1 rfl (.nil (.seq (.seq (.seq (.region (.U hT 3 rfl (.split 21 rfl (fun mm=> ?_) (fun mm=> ?_)))))))))))
  .
   have mm:rootOf oP≠0:=by simpa using mm
   refine OT.U hT 1 rfl (.call Tryz.call166 rfl rfl rfl rfl (rI) ?_)
   rintro yH sY ⟨rfl,rfl⟩
   refine OT.U hT 2 rfl (.nil (.seq (.cond rfl (fun nD=> ?_) (fun nD=> ?_))))
   .
    have nD:¬av (rootOf oP):=by simpa using nD
    refine TT.seq (.region (.U hT 2 rfl (.nil (.seq (.ret (.of (rs:=[.tmp 2,.tmp 3]) [_,_] (H1::r) rfl (.tmp rfl (.tmp rfl .nil)) sl ?_))))))
    try dsimp only[one]
    exact⟨H1,0,3,rfl,rfl,.inl ⟨fS,by unfold iR;dsimp only;rw[hx,if_neg (by simp),if_pos ⟨mm,nD⟩]⟩⟩
   .
    have nD:av (rootOf oP):=by simpa using nD
    refine TT.skip (.seq (.seq (.region (.U hT 3 rfl (.nil (.seq (.ret (.of (rs:=[.tmp 2,.tmp 3]) [_,_] (H1::r) rfl (.tmp rfl (.tmp rfl .nil)) sl ?_))))))))
    try dsimp only[one]
    exact⟨H1,_,0,rfl,rfl,.inl ⟨fS,by unfold iR;dsimp only;rw[hx,if_neg (by simp),if_neg (fun h=>h.2 nD)]⟩⟩
  .
   have mm:rootOf oP=0:=by simpa using mm
   refine OT.U hT 4 rfl (.nil (.seq (.cond_false rfl (.skip (.seq (.seq (.region (.U hT 3 rfl (.nil (.seq (.ret (.of (rs:=[.tmp 2,.tmp 3]) [_,_] (H1::r) rfl (.tmp rfl (.tmp rfl .nil)) sl ?_))))))))))))
   try dsimp only[one]
   exact⟨H1,_,0,rfl,rfl,.inl ⟨fS,by unfold iR;dsimp only;rw[hx,if_neg (by simp),if_neg (fun h=>h.1 mm)]⟩⟩
theorem qz{b:Nat}{P:Value}{I:Chunk->Prop}{E:Int->Chunk->Prop}{Qb:ah}(hP:cM Tryz.prog 5 P I E (aI Qb))(hQ:cC Qb){Qt:ah}{H:Chunk}{r:List Chunk}(hH:aM 110 b P I Qb Qt H):ax Tryz.prog 157 [.iface 24 (.pointer (some ⟨b,0,none⟩))] (H::r) (fun v' hs'=>∃H' K w e bs,hs'=H'::K::r/\v'= .tuple ⟨[w,.int .i64 e]⟩/\Own Go.Sx.bD 1 5 w bs K/\((e=0/\bs=Qt 1/\aM 110 b P I Qb Qt H')\/(e≠0/\bs=[]/\∃e,cD 110 b P E e H'))):=by
 refine(m4 (b_ hP hQ).CZ hH).mono ?_
 rintro v' hs' ⟨H',K,w,e,bs,h1,h2,h3,h4⟩
 refine⟨H',K,w,e,bs,h1,h2,h3,?_⟩
 rw[EP (hH.pT hQ)]at h4
 rcases h4 with⟨h5,h6,h7⟩|⟨h5,h6,⟨h7,_⟩|h7⟩
 . exact .inl ⟨h5,(congrArg Prod.snd h6).symm,h7⟩
 . exact absurd h7.symm h5
 . exact .inr ⟨h5,h6,h7⟩
theorem mO{b:Nat}{P:Value}{I:Chunk->Prop}{E:Int->Chunk->Prop}{Qb:ah}(hP:cM Tryz.prog 5 P I E (aI Qb))(hQ:cC Qb){Qt:ah}{H:Chunk}{r:List Chunk}(hH:aM 110 b P I Qb Qt H){no:Int}{v:Value}{bs:List UInt8}(hr:Row Go.Sx.bD 1 r v bs)(hno:aF no)(hb:bs.length=256):ax Tryz.prog 109 [.pointer (some ⟨b,0,none⟩),.int .i64 no,v] (H::r) (fun v' hs'=>∃H',hs'=H'::r/\v'= .int .i64 0/\aM 110 b P I Qb (eW Qt no bs) H'):=by
 obtain⟨m,hm,rfl⟩:=hH
 obtain⟨ti,ui,hv⟩:=hP.iface
 refine(Bp hv hm hr (by omega)).mono ?_
 rintro v' hs' ⟨H',h1,⟨h2,_⟩|⟨_,h2,_⟩|⟨_,_,h2,h3⟩⟩
 . exact absurd hno h2
 . exact absurd hb h2
 . exact⟨H',h1,h2,_,h3,(wL _ _ _ _).symm⟩
set_option maxHeartbeats 1000000 in
set_option maxRecDepth 100000 in
theorem Ae{b:Nat}{P:Value}{I:Chunk->Prop}{E:Int->Chunk->Prop}{Qb:ah}(hP:cM Tryz.prog 5 P I E (aI Qb))(hQ:cC Qb){Qt:ah}{H:Chunk}{r:List Chunk}(hH:aM 110 b P I Qb Qt H){no:Int}(hno:no=0\/av no):ax Tryz.prog 143 [.pointer (some ⟨b,0,none⟩),.int .i64 no] (H::r) (fun v' hs'=>∃H' e,hs'=H'::r/\v'= .int .i64 e/\((e=0/\aM 110 b P I Qb (eW Qt 1 ((Qt 1).set 4 (UInt8.ofNat no.toNat))) H')\/(e≠0/\∃e,cD 110 b P E e H'))):=by
 refine ax.enter 30 Tryz.func143 rfl Tryz.ntmps143 rfl ?_
 have hnb:0<=no/\no<32:=by unfold av at hno;omega
 refine TT.seq (.region (.U hT 1 rfl (.nil (.seq (.seq (.seq (.region (.U hT 3 rfl (.split 9 rfl (fun g9=> ?_) (fun g9=> ?_))))))))))
 .
  have g9:no≠0:=by simpa using g9
  refine OT.U hT 1 rfl (.call Tryz.call166 rfl rfl rfl rfl (rI) ?_)
  rintro oH iV ⟨rfl,rfl⟩
  refine OT.U hT 2 rfl (.nil (.seq (.cond rfl (fun gm=> ?_) (fun gm=> ?_))))
  .
   exact absurd (hno.resolve_left g9) (by simpa using gm)
  .
   refine TT.skip (.seq (.seq (.region (.U hT 1 rfl (.bU Tryz.underlying24 rfl rfl rfl rfl (.call Tryz.call157 rfl rfl rfl rfl (qz hP hQ hH) ?_))))))
   rintro BH AJ ⟨H1,K1,w1,e1,oP,rfl,rfl,dU,m_⟩
   refine OT.U hT 5 rfl (.nil (.seq (.seq (.seq (.region (.U hT 2 rfl (.nil (.seq (.cond rfl (fun ef=> ?_) (fun ef=> ?_))))))))))
   .
    have ef:=bne_iff_ne.1 ef
    rcases m_ with⟨h,_⟩|⟨h,rfl,hq⟩
    . exact absurd h ef
    refine TT.seq (.region (.U hT 2 rfl (.nil (.seq (.ret (.of (rs:=[.tmp 4]) [_] (H1::r) rfl (.tmp rfl .nil) sl ?_))))))
    try dsimp only[one]
    exact⟨H1,e1,rfl,rfl,.inr ⟨ef,hq⟩⟩
   .
    have ef:=bne_eq_false_iff_eq.1 ef
    rcases m_ with⟨rfl,hx,fS⟩|⟨h,_⟩
    rotate_left
    . exact absurd ef h
    have nB:oP.length=256:=by rw[hx];exact hH.pT hQ 1 (by unfold aF;omega)
    obtain⟨aw,cw,rfl⟩:=(dU.row (hs:=[])).len
    obtain⟨bw,ow,rfl⟩:=nO dU (by omega)
    refine TT.skip (.seq (.seq (.region (.U hT 2 rfl (.U hT 1 rfl (.eH 25 rfl (v:= .int .u8 ((UInt8.ofNat no.toNat).toNat:Int)) (int_eq (A6 hnb)) (.fH hT rfl rfl rfl rfl (by omega) (by omega) rfl (.fe 4 0 hT rfl rfl rfl rfl pl dU (Mm nB) rfl rfl (by decide) rfl (show splice (Go.Sx.bD _) 0 [.int .u8 ((UInt8.ofNat no.toNat).toNat:Int)]=Go.Sx.bD (UInt8.ofNat no.toNat)from rfl) (fun BQ nv=> ?_)))))))))
    refine OT.nil (.seq (.seq (.region (.U hT 2 rfl (.call Tryz.call109 rfl rfl rfl rfl (ax.weaken sl (mO hP hQ fS (no:=1) (r:=BQ::r) nv.row (by unfold aF;omega) (by rw[List.length_set];exact nB))) ?_)))))
    rintro qJ pH ⟨H2,rfl,rfl,dH⟩
    refine OT.U hT 1 rfl (.nil (.seq (.ret (.of (rs:=[.tmp 4]) [_] (H2::r) rfl (.tmp rfl .nil) sl ?_))))
    try dsimp only[one]
    rw[hx]at dH
    exact⟨H2,0,rfl,rfl,.inl ⟨rfl,dH⟩⟩
 .
  refine OT.U hT 4 rfl (.nil (.seq (.cond_false rfl (.skip (.seq (.seq (.region (.U hT 1 rfl (.bU Tryz.underlying24 rfl rfl rfl rfl (.call Tryz.call157 rfl rfl rfl rfl (qz hP hQ hH) ?_))))))))))
  rintro BH AJ ⟨H1,K1,w1,e1,oP,rfl,rfl,dU,m_⟩
  refine OT.U hT 5 rfl (.nil (.seq (.seq (.seq (.region (.U hT 2 rfl (.nil (.seq (.cond rfl (fun ef=> ?_) (fun ef=> ?_))))))))))
  .
   have ef:=bne_iff_ne.1 ef
   rcases m_ with⟨h,_⟩|⟨h,rfl,hq⟩
   . exact absurd h ef
   refine TT.seq (.region (.U hT 2 rfl (.nil (.seq (.ret (.of (rs:=[.tmp 4]) [_] (H1::r) rfl (.tmp rfl .nil) sl ?_))))))
   try dsimp only[one]
   exact⟨H1,e1,rfl,rfl,.inr ⟨ef,hq⟩⟩
  .
   have ef:=bne_eq_false_iff_eq.1 ef
   rcases m_ with⟨rfl,hx,fS⟩|⟨h,_⟩
   rotate_left
   . exact absurd ef h
   have nB:oP.length=256:=by rw[hx];exact hH.pT hQ 1 (by unfold aF;omega)
   obtain⟨aw,cw,rfl⟩:=(dU.row (hs:=[])).len
   obtain⟨bw,ow,rfl⟩:=nO dU (by omega)
   refine TT.skip (.seq (.seq (.region (.U hT 2 rfl (.U hT 1 rfl (.eH 25 rfl (v:= .int .u8 ((UInt8.ofNat no.toNat).toNat:Int)) (int_eq (A6 hnb)) (.fH hT rfl rfl rfl rfl (by omega) (by omega) rfl (.fe 4 0 hT rfl rfl rfl rfl pl dU (Mm nB) rfl rfl (by decide) rfl (show splice (Go.Sx.bD _) 0 [.int .u8 ((UInt8.ofNat no.toNat).toNat:Int)]=Go.Sx.bD (UInt8.ofNat no.toNat)from rfl) (fun BQ nv=> ?_)))))))))
   refine OT.nil (.seq (.seq (.region (.U hT 2 rfl (.call Tryz.call109 rfl rfl rfl rfl (ax.weaken sl (mO hP hQ fS (no:=1) (r:=BQ::r) nv.row (by unfold aF;omega) (by rw[List.length_set];exact nB))) ?_)))))
   rintro qJ pH ⟨H2,rfl,rfl,dH⟩
   refine OT.U hT 1 rfl (.nil (.seq (.ret (.of (rs:=[.tmp 4]) [_] (H2::r) rfl (.tmp rfl .nil) sl ?_))))
   try dsimp only[one]
   rw[hx]at dH
   exact⟨H2,0,rfl,rfl,.inl ⟨rfl,dH⟩⟩
set_option maxHeartbeats 1000000 in
set_option maxRecDepth 100000 in
theorem G5{b:Nat}{P:Value}{I:Chunk->Prop}{E:Int->Chunk->Prop}{Qb:ah}(hP:cM Tryz.prog 5 P I E (aI Qb))(hQ:cC Qb){Qt:ah}{H:Chunk}{r:List Chunk}(hH:aM 110 b P I Qb Qt H):ax Tryz.prog 142 [.pointer (some ⟨b,0,none⟩)] (H::r) (fun v' hs'=>∃H' no e,hs'=H'::r/\v'= .tuple ⟨[.int .i64 no,.int .i64 e]⟩/\((∃n:Nat,kq (Qt 1)=some n/\e=0/\no=(n:Nat)/\aM 110 b P I Qb (eW (eW Qt 1 (vt (Qt 1) n)) (n:Nat) (fT 256)) H')\/(kq (Qt 1)=none/\e=4/\aM 110 b P I Qb Qt H')\/(e≠0/\∃e,cD 110 b P E e H'))):=by
 refine ax.enter 45 Tryz.func142 rfl Tryz.ntmps142 rfl ?_
 refine TT.seq (.region (.U hT 2 rfl (.nil (.seq (.seq (.region (.U hT 1 rfl (.bU Tryz.underlying24 rfl rfl rfl rfl (.call Tryz.call157 rfl rfl rfl rfl (qz hP hQ hH) ?_)))))))))
 rintro oH iV ⟨H1,K1,w1,e1,oP,rfl,rfl,dU,m_⟩
 refine OT.U hT 5 rfl (.nil (.seq (.seq (.seq (.region (.U hT 2 rfl (.nil (.seq (.cond rfl (fun oQ=> ?_) (fun oQ=> ?_))))))))))
 .
  have oQ:=bne_iff_ne.1 oQ
  rcases m_ with⟨h,_⟩|⟨h,rfl,hq⟩
  . exact absurd h oQ
  refine TT.seq (.region (.U hT 3 rfl (.nil (.seq (.ret (.of (rs:=[.tmp 2,.tmp 3]) [_,_] (H1::r) rfl (.tmp rfl (.tmp rfl .nil)) sl ?_))))))
  try dsimp only[one]
  exact⟨H1,0,e1,rfl,rfl,.inr (.inr ⟨oQ,hq⟩)⟩
 .
  have oQ:=bne_eq_false_iff_eq.1 oQ
  rcases m_ with⟨rfl,hx,fS⟩|⟨h,_⟩
  rotate_left
  . exact absurd oQ h
  have nB:oP.length=256:=by rw[hx];exact hH.pT hQ 1 (by unfold aF;omega)
  obtain⟨aw,cw,rfl⟩:=(dU.row (hs:=[])).len
  obtain⟨bw,ow,rfl⟩:=nO dU (by omega)
  refine TT.skip (.seq (.seq (.seq (.region (.U hT 1 rfl (.nil (.seq (.block (.loop (ι:=Nat) (fun j=>2<=(j)/\(j)<=32/\za oP (j)) (fun j=>32-(j)) (fun j=>[(0,.pointer (some ⟨b,0,none⟩)),(4,.slice (some ⟨bw,ow,none⟩) oP.length cw),(6,.int .i64 ((j):Nat))]) (fun j=>H1::K1::r) (2) ?_ (aa.cons rfl (aa.cons rfl (aa.cons rfl (aa.nil _)))) sl ?_)))))))))
  . exact⟨by omega,by omega,fun k h1 h2=>by omega⟩
  rintro n ⟨hn2,hn,yT⟩
  show TT _ _ _ [(0,.pointer (some ⟨b,0,none⟩)),(4,.slice (some ⟨bw,ow,none⟩) oP.length cw),(6,.int .i64 (n:Nat))] (H1::K1::r)
  refine TT.seq (.seq (.region (.U hT 2 rfl (.nil (.seq (.cond rfl (fun gw=> ?_) (fun gw=> ?_)))))))
  .
   have gw:=of_decide_eq_true gw
   have BL:n<32:=by omega
   obtain⟨cx,I3⟩:=nth (l:=oP) (i:=n/8) (by omega)
   refine TT.skip (.seq (.seq (.block (.seq (.seq (.region (.U hT 2 rfl (.call Tryz.call158 rfl rfl rfl rfl (o_ (dU.row.there) nB) ?_))))))))
   rintro yH sY ⟨rfl,rfl⟩
   refine OT.nil (.seq (.cond rfl (fun yq=> ?_) (fun yq=> ?_)))
   .
    refine TT.exit (.seq (.here (.seq (.region (.U hT 3 rfl (.nil (.loop (n+1) ?_ ?_ (aa.cons rfl (aa.cons rfl (aa.aD rfl (by(try dsimp only);exact(int_eq (by rw[wrap_i64 (by omega) (by omega)];omega))) (aa.nil _)))) sl)))))))
    . exact⟨by omega,by omega,fun k h1 h2=>if h:k=n then(by rw[h];exact yq)else yT k h1 (by omega)⟩
    . omega
   .
    refine TT.skip (.seq (.seq (.draw (r) mixed (.takes (fuel:=6) hT [0,1,2,5,6] kr kr rfl (.take (fuel:=5) hT 3 rfl rfl kr kr kr rfl (Fl.index (i:=((n/8:Nat):Int)) hT rfl rfl (congrArg some (int_eq (q8 BL))) (by omega) (by omega)) rfl (.take (fuel:=4) hT 7 rfl rfl kr kr kr rfl (Fl.shl (b:=((n%8:Nat):Int)) rfl (congrArg some (int_eq (r8 n))) (by omega)) rfl (.op (fuel:=3) 4 kr rfl sl (.load rfl rfl ((dU.HP I3).there.ct hT rfl rfl) rfl (.nil (.any (.takes (fuel:=2) hT [8] kr kr rfl (.take (fuel:=1) hT 9 rfl rfl kr kr kr rfl (Fl.index (i:=((n/8:Nat):Int)) hT rfl rfl (congrArg some (int_eq (q8 BL))) (by omega) (by omega)) rfl (.op (fuel:=0) 10 kr rfl sl (.fe (n/8) 0 hT rfl rfl rfl rfl pl dU I3 rfl rfl (by decide) rfl (GA cx n) (fun BQ nv=> ?_)))))))))))))))
    rw[Kb I3]at nv
    refine OT.nil (.any (.done kr sl (.seq (.seq (.seq (.region (.U hT 2 rfl (.call Tryz.call109 rfl rfl rfl rfl (ax.weaken sl (mO hP hQ fS (no:=1) (r:=BQ::r) nv.row (by unfold aF;omega) (by rw[wP];exact nB))) ?_))))))))
    rintro V2 SW ⟨H2,rfl,rfl,dH⟩
    refine OT.U hT 1 rfl (.nil (.seq (.seq (.region (.U hT 2 rfl (.nil (.seq (.cond_false rfl (.skip (.seq (.seq (.region (.U hT 3 rfl ?_)))))))))))))
    refine OT.make (enc:=Go.Sx.bD) (z0:=(0:UInt8)) (n:=256) lq Tryz.zeroValue5 rfl rfl rfl rfl rfl (by omega) rfl (fun Gg MJ DZ=> ?_)
    refine OT.call Tryz.call109 rfl rfl rfl rfl (ax.weaken sl (mO hP hQ dH (no:=(n:Nat)) (r:=MJ::r) DZ.row (by unfold aF;omega) (by rw[List.length_replicate]))) ?_
    rintro vE s0 ⟨H3,rfl,rfl,mq⟩
    refine OT.U hT 2 rfl (.nil (.seq (.ret (.of (rs:=[.tmp 2,.tmp 3]) [_,_] (H3::r) rfl (.tmp rfl (.tmp rfl .nil)) sl ?_))))
    try dsimp only[one]
    rw[hx]at mq yT yq
    exact⟨H3,_,0,rfl,rfl,.inl ⟨n,zN hn2 BL yT yq,rfl,rfl,mq⟩⟩
  .
   have gw:=of_decide_eq_false gw
   obtain rfl:n=32:=by omega
   refine TT.exit (.seq (.loop (.here (.seq (.seq (.region (.U hT 2 rfl (.nil (.seq (.ret (.of (rs:=[.tmp 2,.tmp 3]) [_,_] (H1::r) rfl (.tmp rfl (.tmp rfl .nil)) sl ?_)))))))))))
   try dsimp only[one]
   rw[hx]at yT
   exact⟨H1,0,4,rfl,rfl,.inr (.inl ⟨zO yT,rfl,fS⟩)⟩
set_option maxHeartbeats 1000000 in
set_option maxRecDepth 100000 in
theorem G6{b:Nat}{P:Value}{I:Chunk->Prop}{E:Int->Chunk->Prop}{Qb:ah}(hP:cM Tryz.prog 5 P I E (aI Qb))(hQ:cC Qb){Qt:ah}{H:Chunk}{r:List Chunk}(hH:aM 110 b P I Qb Qt H){n:Nat}(BL:n<32):ax Tryz.prog 183 [.pointer (some ⟨b,0,none⟩),.int .i64 (n:Nat)] (H::r) (fun v' hs'=>∃H' e,hs'=H'::r/\v'= .int .i64 e/\((hasB (Qt 1) (n:Nat)=true/\e=0/\aM 110 b P I Qb (eW Qt 1 (vu (Qt 1) n)) H')\/(hasB (Qt 1) (n:Nat)=false/\e=6/\aM 110 b P I Qb Qt H')\/(e≠0/\∃e,cD 110 b P E e H'))):=by
 refine ax.enter 35 Tryz.func183 rfl Tryz.ntmps183 rfl ?_
 refine TT.seq (.region (.U hT 1 rfl (.nil (.seq (.seq (.region (.U hT 1 rfl (.bU Tryz.underlying24 rfl rfl rfl rfl (.call Tryz.call157 rfl rfl rfl rfl (qz hP hQ hH) ?_)))))))))
 rintro oG jX ⟨H1,K1,w1,e1,oP,rfl,rfl,dU,m_⟩
 refine OT.U hT 5 rfl (.nil (.seq (.seq (.block (.seq (.region (.U hT 3 rfl (.nil (.seq (.cond rfl (fun gm=> ?_) (fun gm=> ?_)))))))))))
 .
  have gm:=bne_iff_ne.1 gm
  rcases m_ with⟨h,_⟩|⟨h,rfl,hq⟩
  . exact absurd h gm
  refine TT.seq (.region (.U hT 2 rfl (.nil (.seq (.ret (.of (rs:=[.tmp 4]) [_] (H1::r) rfl (.tmp rfl .nil) sl ?_))))))
  try dsimp only[one]
  exact⟨H1,e1,rfl,rfl,.inr (.inr ⟨gm,hq⟩)⟩
 .
  have gm:=bne_eq_false_iff_eq.1 gm
  rcases m_ with⟨rfl,hx,fS⟩|⟨h,_⟩
  rotate_left
  . exact absurd gm h
  have nB:oP.length=256:=by rw[hx];exact hH.pT hQ 1 (by unfold aF;omega)
  obtain⟨aw,cw,rfl⟩:=(dU.row (hs:=[])).len
  obtain⟨bw,ow,rfl⟩:=nO dU (by omega)
  refine TT.seq (.region (.U hT 2 rfl (.call Tryz.call158 rfl rfl rfl rfl (o_ (dU.row.there) nB) ?_)))
  rintro ug qR ⟨rfl,rfl⟩
  refine OT.U hT 2 rfl (.nil (.seq (.cond rfl (fun fC=> ?_) (fun fC=> ?_))))
  .
   have fC:hasB oP (n:Nat)=false:=by simpa using fC
   refine TT.seq (.region (.U hT 1 rfl (.nil (.seq (.ret (.of (rs:=[.tmp 4]) [_] (H1::r) rfl (.tmp rfl .nil) sl ?_))))))
   try dsimp only[one]
   rw[hx]at fC
   exact⟨H1,6,rfl,rfl,.inr (.inl ⟨fC,rfl,fS⟩)⟩
  .
   have fC:hasB oP (n:Nat)=true:=by simpa using fC
   obtain⟨cx,I3⟩:=nth (l:=oP) (i:=n/8) (by omega)
   refine TT.skip (.blk (.seq (.seq (.draw (r) mixed (.takes (fuel:=6) hT [0,1,2,5,6] kr kr rfl (.take (fuel:=5) hT 3 rfl rfl kr kr kr rfl (Fl.index (i:=((n/8:Nat):Int)) hT rfl rfl (congrArg some (int_eq (q8 BL))) (by omega) (by omega)) rfl (.take (fuel:=4) hT 7 rfl rfl kr kr kr rfl (Fl.shl (b:=((n%8:Nat):Int)) rfl (congrArg some (int_eq (r8 n))) (by omega)) rfl (.op (fuel:=3) 4 kr rfl sl (.load rfl rfl ((dU.HP I3).there.ct hT rfl rfl) rfl (.nil (.any (.takes (fuel:=2) hT [8] kr kr rfl (.take (fuel:=1) hT 9 rfl rfl kr kr kr rfl (Fl.index (i:=((n/8:Nat):Int)) hT rfl rfl (congrArg some (int_eq (q8 BL))) (by omega) (by omega)) rfl (.op (fuel:=0) 10 kr rfl sl (.fe (n/8) 0 hT rfl rfl rfl rfl pl dU I3 rfl rfl (by decide) rfl (EV cx n) (fun BQ nv=> ?_))))))))))))))))
   rw[Kc I3]at nv
   refine OT.nil (.any (.done kr sl (.seq (.seq (.region (.U hT 2 rfl (.call Tryz.call109 rfl rfl rfl rfl (ax.weaken sl (mO hP hQ fS (no:=1) (r:=BQ::r) nv.row (by unfold aF;omega) (by rw[wQ];exact nB))) ?_)))))))
   rintro BG we ⟨H2,rfl,rfl,dH⟩
   refine OT.U hT 1 rfl (.nil (.seq (.ret (.of (rs:=[.tmp 4]) [_] (H2::r) rfl (.tmp rfl .nil) sl ?_))))
   try dsimp only[one]
   rw[hx]at dH fC
   exact⟨H2,0,rfl,rfl,.inl ⟨fC,rfl,dH⟩⟩
end Go.Proofs.YtihpkgmfkbkffaaGreat.Sx
end
section
namespace Go.Proofs.YtihpkgmfkbkffaaGreat.Sx
open Go Go.Sx Go.Pl
variable[aq]
set_option maxHeartbeats 2000000 in
set_option maxRecDepth 100000 in
theorem Af{a:Option Addr}{n c:Nat}{xs:List Cell}{y:Cell}{i b2:Nat}{H:Chunk}{r:List Chunk}(ho:Own aj 8 113 (.slice a n c) xs H)(hi:i<=xs.length)(hl:xs.length<=1000000):ax Tryz.prog 145 [.slice a n c,.int .i64 (i:Nat),.slice (some ⟨b2,0,none⟩) 1 1] (H::[(b2,blk (aj y) 113 (0,0))]::r) (fun v' hs'=>∃H',hs'=H'::r/\Own aj 8 113 v' (aJ xs i y) H'):=by
 refine ax.enter 95 Tryz.func145 rfl Tryz.ntmps145 rfl ?_
 obtain⟨a0,c0,hv⟩:=(ho.row (hs:=r)).len
 injection hv with _ hn _
 subst hn
 have Df:Row aj 8 ([(b2,blk (aj y) 113 (0,0))]::r) (.slice (some ⟨b2,0,none⟩) 1 1) [y]:=Row.ur (o:=0) Has.one (fun _ _=>rfl) rfl (Nat.le_refl _) rfl
 refine TT.seq (.region (.U hT 1 rfl (.nil (.seq (.seq (.region (.U hT 2 rfl (.slice i xs.length hT rfl rfl rfl rfl rfl ho.row (.inr ⟨_,rfl⟩) (.inl ⟨rfl,rfl⟩) (by omega) (by omega) rfl (fun JO Is=> ?_)))))))))
 refine OT.nil (.seq (.seq (.region (.U hT 3 rfl (.nil (.seq (.seq (.seq (.region (.U hT 2 rfl (.nil (.seq (.cond_false rfl (.skip (.seq (.seq (.region (.U hT 3 rfl (.nil (.seq (.seq (.seq (.region (.U hT 3 rfl (.nil (.seq (.cond rfl (fun l9=> ?_) (fun l9=> ?_))))))))))))))))))))))))))))
 .
  have l9:(i:Int)=xs.length:=by simpa using l9
  obtain rfl:i=xs.length:=by omega
  refine TT.seq (.region (.U hT 2 rfl ?_))
  refine OT.append hT iU rfl rfl rfl rfl pl ho Df.there rfl (by simp only[List.length_singleton];omega) rfl (fun sI vG wu=> ?_)
  refine OT.U hT 1 rfl (.nil (.seq (.ret (.of (rs:=[.tmp 6]) [_] (vG::r) rfl (.tmp rfl .nil) sl ?_))))
  try dsimp only[one]
  exact⟨vG,rfl,by rw[<-uM];exact wu⟩
 .
  have l9:¬(i:Int)=xs.length:=by simpa using l9
  have hin:i<xs.length:=by omega
  obtain⟨b,o,rfl⟩:=zg ho (by omega)
  refine TT.skip (.seq (.seq (.seq (.region (.U hT 4 rfl (.cap hT rfl rfl rfl rfl (.U hT 1 rfl (.nil (.seq (.cond rfl (fun fF=> ?_) (fun fF=> ?_)))))))))))
  .
   have fF:(c:Int)<(xs.length:Int)+1:=by
    have:=of_decide_eq_true fF
    rw[wrap_i64 (by omega) (by omega)]at this;omega
   have AS:=(ho.row (hs:=r)).fD
   refine TT.seq (.region (.U hT 2 rfl (.cJ 0 i hT rfl rfl rfl rfl rfl (.inl ⟨rfl,rfl⟩) (.inr ⟨_,rfl⟩) (by omega) (by omega) (by omega) rfl (.U hT 5 rfl (.eH 39 rfl (v:= .int .i64 ((xs.length+1-i:Nat):Int)) (int_eq (by rw[wrap_i64 (n:=(xs.length:Int)+((1:Nat):Int)) (by omega) (by omega),wrap_i64 (by omega) (by omega)];omega)) ?_)))))
   have hro:=ho.lu (hs:=[(b2,blk (aj y) 113 (0,0))]::r) (L:=0) (M:=i) (by omega) (by omega) (by omega)
   rw[List.drop_zero]at hro
   have yl:(xs.take i).length=i:=by rw[List.length_take];omega
   refine OT.fO (z0:=noCell) (m:=xs.length+1-i) Tryz.zeroValue113 rfl (by decide) hT iU rfl rfl rfl rfl hro (by omega) (by rw[yl];rfl) (by rw[yl];omega) rfl (fun Gd MK ig=> ?_)
   obtain⟨b9,o9,c9,rfl⟩:=lH ig (by rw[List.length_append,List.length_replicate];omega)
   have vm:(xs.take i++List.replicate (xs.length+1-i) noCell).length=xs.length+1:=by rw[List.length_append,List.length_replicate];omega
   rw[vm]at ig
   have L4:=(ig.row (hs:=r)).fD
   rw[vm]at L4⊢
   refine OT.U hT 1 rfl (.nil (.seq (.seq (.region (.U hT 2 rfl (.cJ i (xs.length+1) hT rfl rfl rfl rfl rfl (.inr ⟨_,rfl⟩) (.inl ⟨rfl,rfl⟩) (by omega) (by omega) (by omega) rfl (.U hT 1 rfl (.fc i hT rfl rfl rfl rfl pl ig (ys:=[y]) Df.there.there (by rw[vm];simp only[List.length_singleton];omega) (by omega) rfl rfl (fun ML pK=> ?_)))))))))
   rw[List.take_of_length_le (l:=[y]) (by show 1<=_;omega)]at pK
   refine OT.nil (.seq (.seq (.draw (r) mixed (.takes (fuel:=3) hT [0,1,2,3,5,6] kr kr rfl (.take (fuel:=2) hT 4 rfl rfl kr kr kr rfl (Fl.slice (i+1) (xs.length+1) hT rfl rfl rfl rfl (.inr ⟨.i64,by rw[wrap_i64 (by omega) (by omega)];exact congrArg some (int_eq (by omega))⟩) (.inl ⟨rfl,rfl⟩) (by omega) (by omega) (by omega)) rfl (.take (fuel:=1) hT 7 rfl rfl kr kr kr rfl (Fl.slice i xs.length hT rfl rfl rfl rfl (.inr ⟨_,rfl⟩) (.inl ⟨rfl,rfl⟩) (by omega) (by omega) (by omega)) rfl (.op (fuel:=0) 8 kr rfl sl ?_)))))))
   have vH:=ho.lu (hs:=[(b2,blk (aj y) 113 (0,0))]::r) (L:=i) (M:=xs.length) (by omega) (Nat.le_refl _) (by omega)
   rw[List.take_length]at vH
   have jr:(xs.drop i).length=xs.length-i:=List.length_drop
   have Dt:(over (xs.take i++List.replicate (xs.length+1-i) noCell) i [y]).length=xs.length+1:=by rw[iA (by rw[vm];simp only[List.length_singleton];omega)];exact vm
   refine OT.fc (i+1) hT rfl rfl rfl rfl pl pK (ys:=xs.drop i) vH.there (by rw[Dt,jr];omega) (by omega) (fM _) rfl (fun vI pL=> ?_)
   rw[List.take_of_length_le (l:=xs.drop i) (by omega),uL hin rfl]at pL
   refine OT.nil (.any (.done kr sl (.seq (.seq (.region (.U hT 2 rfl (.nil (.seq (.ret (.of (rs:=[.tmp 6]) [_] (vI::r) rfl (.tmp rfl .nil) sl ?_))))))))))
   try dsimp only[one]
   exact⟨vI,rfl,pL⟩
  .
   have fF:¬(c:Int)<(xs.length:Int)+1:=by
    have:=of_decide_eq_false fF
    rw[wrap_i64 (by omega) (by omega)]at this;omega
   refine TT.skip (.seq (.seq (.region (.U hT 4 rfl (.cJ 0 (xs.length+1) hT rfl rfl rfl rfl rfl (.inl ⟨rfl,rfl⟩) (.inr ⟨.i64,by rw[wrap_i64 (by omega) (by omega)];exact congrArg some (int_eq (by omega))⟩) (by omega) (by omega) (by omega) rfl (.U hT 1 rfl (.nil (.seq (.seq (.seq (.region (.U hT 5 rfl (.eH 0 rfl (v:= .slice (some ⟨b,o,none⟩) (xs.length+1) c) (by rw[Nat.zero_mul,Nat.add_zero];rfl) (.eH 62 rfl (v:= .slice (some ⟨b,o,none⟩) (xs.length+1) c) (by rw[Nat.zero_mul,Nat.add_zero];rfl) (.cJ (i+1) (xs.length+1) hT rfl rfl rfl rfl rfl (.inr ⟨.i64,by rw[wrap_i64 (by omega) (by omega)];exact congrArg some (int_eq (by omega))⟩) (.inl ⟨rfl,rfl⟩) (by omega) (by omega) (by omega) rfl (.overlaps Tryz.func174 kr kr kr (tS:=122) (tR:=4) kr hT rfl rfl rfl rfl rfl pl ho (by omega) (by decide) Has.one ?_))))))))))))))))
   refine OT.U hT 1 rfl (.nil (.seq (.cond_true rfl (.seq (.draw (r) mixed (.takes (fuel:=3) hT [0,1,2,3,5,6] kr kr rfl (.take (fuel:=2) hT 4 rfl rfl kr kr kr rfl (Fl.slice (i+1) (xs.length+1) hT rfl rfl rfl rfl (.inr ⟨.i64,by rw[wrap_i64 (by omega) (by omega)];exact congrArg some (int_eq (by omega))⟩) (.inl ⟨rfl,rfl⟩) (by omega) (by omega) (by omega)) rfl (.take (fuel:=1) hT 7 rfl rfl kr kr kr rfl (Fl.slice i (xs.length+1) hT rfl rfl rfl rfl (.inr ⟨_,rfl⟩) (.inl ⟨rfl,rfl⟩) (by omega) (by omega) (by omega)) rfl (.op (fuel:=0) 8 kr rfl sl (.uK (i:=i) hT rfl rfl rfl rfl pl ho hin (by omega) (by omega) (by omega) (fM _) rfl (fun MM wv=> ?_)))))))))))
   refine OT.nil (.any (.done kr sl (.seq (.seq (.region (.U hT 2 rfl (.cJ i (xs.length+1) hT rfl rfl rfl rfl rfl (.inr ⟨_,rfl⟩) (.inl ⟨rfl,rfl⟩) (by omega) (by omega) (by omega) rfl (.U hT 1 rfl (.fc i hT rfl rfl rfl rfl pl wv (ys:=[y]) Df.there (by rw[List.length_append,List.length_take,List.length_drop];simp only[List.length_singleton];omega) (by rw[List.length_append,List.length_drop];omega) rfl rfl (fun vJ pM=> ?_))))))))))
   rw[List.take_of_length_le (l:=[y]) (by show 1<=_;omega),zf hin]at pM
   refine OT.nil (.seq (.seq (.region (.U hT 2 rfl (.nil (.seq (.ret (.of (rs:=[.tmp 6]) [_] (vJ::r) rfl (.tmp rfl .nil) sl ?_))))))))
   try dsimp only[one]
   exact⟨vJ,rfl,pM⟩
set_option maxHeartbeats 1000000 in
set_option maxRecDepth 100000 in
theorem Ag{v:Value}{xs:List Cell}{i j:Nat}{H:Chunk}{r:List Chunk}(ho:Own aj 8 113 v xs H)(hij:i<=j)(hj:j<=xs.length)(hl:xs.length<=1073741824):ax Tryz.prog 149 [v,.int .i64 (i:Nat),.int .i64 (j:Nat)] (H::r) (fun v' hs'=>∃H',hs'=H'::r/\Own aj 8 113 v' (xs.take i++xs.drop j) H'):=by
 refine ax.enter 33 Tryz.func149 rfl Tryz.ntmps149 rfl ?_
 obtain⟨a0,c0,hv⟩:=(ho.row (hs:=r)).len
 subst hv
 have hc:=ho.cap.2
 have hlt:(xs.take i).length=i:=by rw[List.length_take];omega
 have jr:(xs.drop j).length=xs.length-j:=List.length_drop
 refine TT.seq (.region (.U hT 1 rfl (.nil (.seq (.seq (.region (.U hT 5 rfl (.slice3 i j xs.length hT rfl rfl rfl ho.row rfl rfl rfl (by omega) (by omega) (by omega) rfl (fun yI=> ?_)))))))))
 refine OT.nil (.seq (.seq (.seq (.region (.U hT 3 rfl (.nil (.seq (.cond rfl (fun fy=> ?_) (fun fy=> ?_)))))))))
 .
  have fy:(i:Int)=j:=by simpa using fy
  obtain rfl:i=j:=by omega
  refine TT.seq (.region (.U hT 2 rfl (.nil (.seq (.ret (.of (rs:=[.tmp 6]) [_] (H::r) rfl (.tmp rfl .nil) sl ?_))))))
  try dsimp only[one]
  exact⟨H,rfl,by rw[List.take_append_drop];exact ho⟩
 .
  refine TT.skip (.seq (.seq (.region (.U hT 3 rfl (.nil (.seq (.seq (.draw (r) mixed (.takes (fuel:=4) hT [0,1,3,4] kr kr rfl (.all (fuel:=3) [2,5] kr (by decide) sl ?_))))))))))
  intro i hi
  simp only[List.mem_cons,List.not_mem_nil,or_false]at hi
  rcases hi with rfl|rfl
  .
   refine⟨_,rfl,?_⟩
   refine OT.ja i hT rfl rfl rfl rfl ho (by omega) rfl (fun kG=> ?_)
   refine OT.nil (.any (.op (fuel:=2) 5 kr rfl sl (.slice j xs.length hT rfl rfl rfl rfl rfl ho.row (.inr ⟨_,rfl⟩) (.inl ⟨rfl,rfl⟩) (by omega) (by omega) rfl (fun sI kH=> ?_))))
   refine OT.nil (.any (.op (fuel:=1) 6 kr rfl sl (.eN hT iU rfl rfl rfl rfl pl hlt.symm kG kH (fM _) (by rw[hlt,List.take_length,jr];omega) (by rw[List.take_length,jr];omega) rfl (fun vD gM=> ?_))))
   refine OT.nil (.any (.takes (fuel:=0) hT [7] kr kr rfl (.done kr sl (.seq (.seq (.region (.U hT 4 rfl (.bK (i+((xs.take xs.length).drop j).length) xs.length hT rfl rfl rfl rfl rfl (.inr ⟨_,rfl⟩) (.inr ⟨_,rfl⟩) (by rw[List.take_length,jr];omega) hc rfl (.eO iU Tryz.zeroValue113 rfl rfl (by rw[List.length_append,hlt]) rfl rfl pl gM (by rw[List.take_length,jr];omega) hc (fun Dg kf=> ?_))))))))))
   refine OT.nil (.seq (.seq (.region (.U hT 2 rfl (.nil (.seq (.ret (.of (rs:=[.tmp 6]) [_] (Dg::r) rfl (.tmp rfl .nil) sl ?_))))))))
   try dsimp only[one]
   exact⟨_,rfl,by rw[List.take_length]at kf⊢;exact kf⟩
  .
   refine⟨_,rfl,?_⟩
   refine OT.slice j xs.length hT rfl rfl rfl rfl rfl ho.row (.inr ⟨_,rfl⟩) (.inl ⟨rfl,rfl⟩) (by omega) (by omega) rfl (fun sI kH=> ?_)
   refine OT.nil (.any (.op (fuel:=2) 2 kr rfl sl (.ja i hT rfl rfl rfl rfl ho (by omega) rfl (fun kG=> ?_))))
   refine OT.nil (.any (.op (fuel:=1) 6 kr rfl sl (.eN hT iU rfl rfl rfl rfl pl hlt.symm kG kH (fM _) (by rw[hlt,List.take_length,jr];omega) (by rw[List.take_length,jr];omega) rfl (fun vD gM=> ?_))))
   refine OT.nil (.any (.takes (fuel:=0) hT [7] kr kr rfl (.done kr sl (.seq (.seq (.region (.U hT 4 rfl (.bK (i+((xs.take xs.length).drop j).length) xs.length hT rfl rfl rfl rfl rfl (.inr ⟨_,rfl⟩) (.inr ⟨_,rfl⟩) (by rw[List.take_length,jr];omega) hc rfl (.eO iU Tryz.zeroValue113 rfl rfl (by rw[List.length_append,hlt]) rfl rfl pl gM (by rw[List.take_length,jr];omega) hc (fun Dg kf=> ?_))))))))))
   refine OT.nil (.seq (.seq (.region (.U hT 2 rfl (.nil (.seq (.ret (.of (rs:=[.tmp 6]) [_] (Dg::r) rfl (.tmp rfl .nil) sl ?_))))))))
   try dsimp only[one]
   exact⟨_,rfl,by rw[List.take_length]at kf⊢;exact kf⟩
set_option maxHeartbeats 2000000 in
set_option maxRecDepth 100000 in
theorem m5{a:Option Addr}{n c:Nat}{xs:List ByteArray}{y:ByteArray}{i b2:Nat}{H:Chunk}{r:List Chunk}(ho:Own Go.Sx.iq 1 9 (.slice a n c) xs H)(hi:i<=xs.length)(hl:xs.length<=1000000):ax Tryz.prog 147 [.slice a n c,.int .i64 (i:Nat),.slice (some ⟨b2,0,none⟩) 1 1] (H::[(b2,blk (Go.Sx.iq y) 9 (0,0))]::r) (fun v' hs'=>∃H',hs'=H'::r/\Own Go.Sx.iq 1 9 v' (aJ xs i y) H'):=by
 refine ax.enter 95 Tryz.func147 rfl Tryz.ntmps147 rfl ?_
 obtain⟨a0,c0,hv⟩:=(ho.row (hs:=r)).len
 injection hv with _ hn _
 subst hn
 have Df:Row Go.Sx.iq 1 ([(b2,blk (Go.Sx.iq y) 9 (0,0))]::r) (.slice (some ⟨b2,0,none⟩) 1 1) [y]:=Row.ur (o:=0) Has.one (fun _ _=>rfl) rfl (Nat.le_refl _) rfl
 refine TT.seq (.region (.U hT 1 rfl (.nil (.seq (.seq (.region (.U hT 2 rfl (.slice i xs.length hT rfl rfl rfl rfl rfl ho.row (.inr ⟨_,rfl⟩) (.inl ⟨rfl,rfl⟩) (by omega) (by omega) rfl (fun JO Is=> ?_)))))))))
 refine OT.nil (.seq (.seq (.region (.U hT 3 rfl (.nil (.seq (.seq (.seq (.region (.U hT 2 rfl (.nil (.seq (.cond_false rfl (.skip (.seq (.seq (.region (.U hT 3 rfl (.nil (.seq (.seq (.seq (.region (.U hT 3 rfl (.nil (.seq (.cond rfl (fun l9=> ?_) (fun l9=> ?_))))))))))))))))))))))))))))
 .
  have l9:(i:Int)=xs.length:=by simpa using l9
  obtain rfl:i=xs.length:=by omega
  refine TT.seq (.region (.U hT 2 rfl ?_))
  refine OT.append hT qH rfl rfl rfl rfl pl ho Df.there rfl (by simp only[List.length_singleton];omega) rfl (fun sI vG wu=> ?_)
  refine OT.U hT 1 rfl (.nil (.seq (.ret (.of (rs:=[.tmp 6]) [_] (vG::r) rfl (.tmp rfl .nil) sl ?_))))
  try dsimp only[one]
  exact⟨vG,rfl,by rw[<-uM];exact wu⟩
 .
  have l9:¬(i:Int)=xs.length:=by simpa using l9
  have hin:i<xs.length:=by omega
  obtain⟨b,o,rfl⟩:=zg ho (by omega)
  refine TT.skip (.seq (.seq (.seq (.region (.U hT 4 rfl (.cap hT rfl rfl rfl rfl (.U hT 1 rfl (.nil (.seq (.cond rfl (fun fF=> ?_) (fun fF=> ?_)))))))))))
  .
   have fF:(c:Int)<(xs.length:Int)+1:=by
    have:=of_decide_eq_true fF
    rw[wrap_i64 (by omega) (by omega)]at this;omega
   have AS:=(ho.row (hs:=r)).fD
   refine TT.seq (.region (.U hT 2 rfl (.cJ 0 i hT rfl rfl rfl rfl rfl (.inl ⟨rfl,rfl⟩) (.inr ⟨_,rfl⟩) (by omega) (by omega) (by omega) rfl (.U hT 5 rfl (.eH 39 rfl (v:= .int .i64 ((xs.length+1-i:Nat):Int)) (int_eq (by rw[wrap_i64 (n:=(xs.length:Int)+((1:Nat):Int)) (by omega) (by omega),wrap_i64 (by omega) (by omega)];omega)) ?_)))))
   have hro:=ho.lu (hs:=[(b2,blk (Go.Sx.iq y) 9 (0,0))]::r) (L:=0) (M:=i) (by omega) (by omega) (by omega)
   rw[List.drop_zero]at hro
   have yl:(xs.take i).length=i:=by rw[List.length_take];omega
   refine OT.fO (z0:=(⟨#[]⟩:ByteArray)) (m:=xs.length+1-i) Tryz.zeroValue9 rfl (by decide) hT qH rfl rfl rfl rfl hro (by omega) (by rw[yl];rfl) (by rw[yl];omega) rfl (fun Gd MK ig=> ?_)
   obtain⟨b9,o9,c9,rfl⟩:=lH ig (by rw[List.length_append,List.length_replicate];omega)
   have vm:(xs.take i++List.replicate (xs.length+1-i) (⟨#[]⟩:ByteArray)).length=xs.length+1:=by rw[List.length_append,List.length_replicate];omega
   rw[vm]at ig
   have L4:=(ig.row (hs:=r)).fD
   rw[vm]at L4⊢
   refine OT.U hT 1 rfl (.nil (.seq (.seq (.region (.U hT 2 rfl (.cJ i (xs.length+1) hT rfl rfl rfl rfl rfl (.inr ⟨_,rfl⟩) (.inl ⟨rfl,rfl⟩) (by omega) (by omega) (by omega) rfl (.U hT 1 rfl (.fc i hT rfl rfl rfl rfl pl ig (ys:=[y]) Df.there.there (by rw[vm];simp only[List.length_singleton];omega) (by omega) rfl rfl (fun ML pK=> ?_)))))))))
   rw[List.take_of_length_le (l:=[y]) (by show 1<=_;omega)]at pK
   refine OT.nil (.seq (.seq (.draw (r) mixed (.takes (fuel:=3) hT [0,1,2,3,5,6] kr kr rfl (.take (fuel:=2) hT 4 rfl rfl kr kr kr rfl (Fl.slice (i+1) (xs.length+1) hT rfl rfl rfl rfl (.inr ⟨.i64,by rw[wrap_i64 (by omega) (by omega)];exact congrArg some (int_eq (by omega))⟩) (.inl ⟨rfl,rfl⟩) (by omega) (by omega) (by omega)) rfl (.take (fuel:=1) hT 7 rfl rfl kr kr kr rfl (Fl.slice i xs.length hT rfl rfl rfl rfl (.inr ⟨_,rfl⟩) (.inl ⟨rfl,rfl⟩) (by omega) (by omega) (by omega)) rfl (.op (fuel:=0) 8 kr rfl sl ?_)))))))
   have vH:=ho.lu (hs:=[(b2,blk (Go.Sx.iq y) 9 (0,0))]::r) (L:=i) (M:=xs.length) (by omega) (Nat.le_refl _) (by omega)
   rw[List.take_length]at vH
   have jr:(xs.drop i).length=xs.length-i:=List.length_drop
   have Dt:(over (xs.take i++List.replicate (xs.length+1-i) (⟨#[]⟩:ByteArray)) i [y]).length=xs.length+1:=by rw[iA (by rw[vm];simp only[List.length_singleton];omega)];exact vm
   refine OT.fc (i+1) hT rfl rfl rfl rfl pl pK (ys:=xs.drop i) vH.there (by rw[Dt,jr];omega) (by omega) (lF _) rfl (fun vI pL=> ?_)
   rw[List.take_of_length_le (l:=xs.drop i) (by omega),uL hin rfl]at pL
   refine OT.nil (.any (.done kr sl (.seq (.seq (.region (.U hT 2 rfl (.nil (.seq (.ret (.of (rs:=[.tmp 6]) [_] (vI::r) rfl (.tmp rfl .nil) sl ?_))))))))))
   try dsimp only[one]
   exact⟨vI,rfl,pL⟩
  .
   have fF:¬(c:Int)<(xs.length:Int)+1:=by
    have:=of_decide_eq_false fF
    rw[wrap_i64 (by omega) (by omega)]at this;omega
   refine TT.skip (.seq (.seq (.region (.U hT 4 rfl (.cJ 0 (xs.length+1) hT rfl rfl rfl rfl rfl (.inl ⟨rfl,rfl⟩) (.inr ⟨.i64,by rw[wrap_i64 (by omega) (by omega)];exact congrArg some (int_eq (by omega))⟩) (by omega) (by omega) (by omega) rfl (.U hT 1 rfl (.nil (.seq (.seq (.seq (.region (.U hT 5 rfl (.eH 0 rfl (v:= .slice (some ⟨b,o,none⟩) (xs.length+1) c) (by rw[Nat.zero_mul,Nat.add_zero];rfl) (.eH 62 rfl (v:= .slice (some ⟨b,o,none⟩) (xs.length+1) c) (by rw[Nat.zero_mul,Nat.add_zero];rfl) (.cJ (i+1) (xs.length+1) hT rfl rfl rfl rfl rfl (.inr ⟨.i64,by rw[wrap_i64 (by omega) (by omega)];exact congrArg some (int_eq (by omega))⟩) (.inl ⟨rfl,rfl⟩) (by omega) (by omega) (by omega) rfl (.overlaps Tryz.func179 kr kr kr (tS:=91) (tR:=4) kr hT rfl rfl rfl rfl rfl pl ho (by omega) (by decide) Has.one ?_))))))))))))))))
   refine OT.U hT 1 rfl (.nil (.seq (.cond_true rfl (.seq (.draw (r) mixed (.takes (fuel:=3) hT [0,1,2,3,5,6] kr kr rfl (.take (fuel:=2) hT 4 rfl rfl kr kr kr rfl (Fl.slice (i+1) (xs.length+1) hT rfl rfl rfl rfl (.inr ⟨.i64,by rw[wrap_i64 (by omega) (by omega)];exact congrArg some (int_eq (by omega))⟩) (.inl ⟨rfl,rfl⟩) (by omega) (by omega) (by omega)) rfl (.take (fuel:=1) hT 7 rfl rfl kr kr kr rfl (Fl.slice i (xs.length+1) hT rfl rfl rfl rfl (.inr ⟨_,rfl⟩) (.inl ⟨rfl,rfl⟩) (by omega) (by omega) (by omega)) rfl (.op (fuel:=0) 8 kr rfl sl (.uK (i:=i) hT rfl rfl rfl rfl pl ho hin (by omega) (by omega) (by omega) (lF _) rfl (fun MM wv=> ?_)))))))))))
   refine OT.nil (.any (.done kr sl (.seq (.seq (.region (.U hT 2 rfl (.cJ i (xs.length+1) hT rfl rfl rfl rfl rfl (.inr ⟨_,rfl⟩) (.inl ⟨rfl,rfl⟩) (by omega) (by omega) (by omega) rfl (.U hT 1 rfl (.fc i hT rfl rfl rfl rfl pl wv (ys:=[y]) Df.there (by rw[List.length_append,List.length_take,List.length_drop];simp only[List.length_singleton];omega) (by rw[List.length_append,List.length_drop];omega) rfl rfl (fun vJ pM=> ?_))))))))))
   rw[List.take_of_length_le (l:=[y]) (by show 1<=_;omega),zf hin]at pM
   refine OT.nil (.seq (.seq (.region (.U hT 2 rfl (.nil (.seq (.ret (.of (rs:=[.tmp 6]) [_] (vJ::r) rfl (.tmp rfl .nil) sl ?_))))))))
   try dsimp only[one]
   exact⟨vJ,rfl,pM⟩
set_option maxHeartbeats 1000000 in
set_option maxRecDepth 100000 in
theorem Ah{v:Value}{xs:List ByteArray}{i j:Nat}{H:Chunk}{r:List Chunk}(ho:Own Go.Sx.iq 1 9 v xs H)(hij:i<=j)(hj:j<=xs.length)(hl:xs.length<=1073741824):ax Tryz.prog 152 [v,.int .i64 (i:Nat),.int .i64 (j:Nat)] (H::r) (fun v' hs'=>∃H',hs'=H'::r/\Own Go.Sx.iq 1 9 v' (xs.take i++xs.drop j) H'):=by
 refine ax.enter 33 Tryz.func152 rfl Tryz.ntmps152 rfl ?_
 obtain⟨a0,c0,hv⟩:=(ho.row (hs:=r)).len
 subst hv
 have hc:=ho.cap.2
 have hlt:(xs.take i).length=i:=by rw[List.length_take];omega
 have jr:(xs.drop j).length=xs.length-j:=List.length_drop
 refine TT.seq (.region (.U hT 1 rfl (.nil (.seq (.seq (.region (.U hT 5 rfl (.slice3 i j xs.length hT rfl rfl rfl ho.row rfl rfl rfl (by omega) (by omega) (by omega) rfl (fun yI=> ?_)))))))))
 refine OT.nil (.seq (.seq (.seq (.region (.U hT 3 rfl (.nil (.seq (.cond rfl (fun fy=> ?_) (fun fy=> ?_)))))))))
 .
  have fy:(i:Int)=j:=by simpa using fy
  obtain rfl:i=j:=by omega
  refine TT.seq (.region (.U hT 2 rfl (.nil (.seq (.ret (.of (rs:=[.tmp 6]) [_] (H::r) rfl (.tmp rfl .nil) sl ?_))))))
  try dsimp only[one]
  exact⟨H,rfl,by rw[List.take_append_drop];exact ho⟩
 .
  refine TT.skip (.seq (.seq (.region (.U hT 3 rfl (.nil (.seq (.seq (.draw (r) mixed (.takes (fuel:=4) hT [0,1,3,4] kr kr rfl (.all (fuel:=3) [2,5] kr (by decide) sl ?_))))))))))
  intro i hi
  simp only[List.mem_cons,List.not_mem_nil,or_false]at hi
  rcases hi with rfl|rfl
  .
   refine⟨_,rfl,?_⟩
   refine OT.ja i hT rfl rfl rfl rfl ho (by omega) rfl (fun kG=> ?_)
   refine OT.nil (.any (.op (fuel:=2) 5 kr rfl sl (.slice j xs.length hT rfl rfl rfl rfl rfl ho.row (.inr ⟨_,rfl⟩) (.inl ⟨rfl,rfl⟩) (by omega) (by omega) rfl (fun sI kH=> ?_))))
   refine OT.nil (.any (.op (fuel:=1) 6 kr rfl sl (.eN hT qH rfl rfl rfl rfl pl hlt.symm kG kH (lF _) (by rw[hlt,List.take_length,jr];omega) (by rw[List.take_length,jr];omega) rfl (fun vD gM=> ?_))))
   refine OT.nil (.any (.takes (fuel:=0) hT [7] kr kr rfl (.done kr sl (.seq (.seq (.region (.U hT 4 rfl (.bK (i+((xs.take xs.length).drop j).length) xs.length hT rfl rfl rfl rfl rfl (.inr ⟨_,rfl⟩) (.inr ⟨_,rfl⟩) (by rw[List.take_length,jr];omega) hc rfl (.eO qH Tryz.zeroValue9 rfl rfl (by rw[List.length_append,hlt]) rfl rfl pl gM (by rw[List.take_length,jr];omega) hc (fun Dg kf=> ?_))))))))))
   refine OT.nil (.seq (.seq (.region (.U hT 2 rfl (.nil (.seq (.ret (.of (rs:=[.tmp 6]) [_] (Dg::r) rfl (.tmp rfl .nil) sl ?_))))))))
   try dsimp only[one]
   exact⟨_,rfl,by rw[List.take_length]at kf⊢;exact kf⟩
  .
   refine⟨_,rfl,?_⟩
   refine OT.slice j xs.length hT rfl rfl rfl rfl rfl ho.row (.inr ⟨_,rfl⟩) (.inl ⟨rfl,rfl⟩) (by omega) (by omega) rfl (fun sI kH=> ?_)
   refine OT.nil (.any (.op (fuel:=2) 2 kr rfl sl (.ja i hT rfl rfl rfl rfl ho (by omega) rfl (fun kG=> ?_))))
   refine OT.nil (.any (.op (fuel:=1) 6 kr rfl sl (.eN hT qH rfl rfl rfl rfl pl hlt.symm kG kH (lF _) (by rw[hlt,List.take_length,jr];omega) (by rw[List.take_length,jr];omega) rfl (fun vD gM=> ?_))))
   refine OT.nil (.any (.takes (fuel:=0) hT [7] kr kr rfl (.done kr sl (.seq (.seq (.region (.U hT 4 rfl (.bK (i+((xs.take xs.length).drop j).length) xs.length hT rfl rfl rfl rfl rfl (.inr ⟨_,rfl⟩) (.inr ⟨_,rfl⟩) (by rw[List.take_length,jr];omega) hc rfl (.eO qH Tryz.zeroValue9 rfl rfl (by rw[List.length_append,hlt]) rfl rfl pl gM (by rw[List.take_length,jr];omega) hc (fun Dg kf=> ?_))))))))))
   refine OT.nil (.seq (.seq (.region (.U hT 2 rfl (.nil (.seq (.ret (.of (rs:=[.tmp 6]) [_] (Dg::r) rfl (.tmp rfl .nil) sl ?_))))))))
   try dsimp only[one]
   exact⟨_,rfl,by rw[List.take_length]at kf⊢;exact kf⟩
set_option maxHeartbeats 2000000 in
set_option maxRecDepth 100000 in
theorem m6{a:Option Addr}{n c:Nat}{xs:List Int}{y:Int}{i b2:Nat}{H:Chunk}{r:List Chunk}(ho:Own Go.Sx.cZ 1 3 (.slice a n c) xs H)(hi:i<=xs.length)(hl:xs.length<=1000000):ax Tryz.prog 148 [.slice a n c,.int .i64 (i:Nat),.slice (some ⟨b2,0,none⟩) 1 1] (H::[(b2,blk (Go.Sx.cZ y) 3 (0,0))]::r) (fun v' hs'=>∃H',hs'=H'::r/\Own Go.Sx.cZ 1 3 v' (aJ xs i y) H'):=by
 refine ax.enter 95 Tryz.func148 rfl Tryz.ntmps148 rfl ?_
 obtain⟨a0,c0,hv⟩:=(ho.row (hs:=r)).len
 injection hv with _ hn _
 subst hn
 have Df:Row Go.Sx.cZ 1 ([(b2,blk (Go.Sx.cZ y) 3 (0,0))]::r) (.slice (some ⟨b2,0,none⟩) 1 1) [y]:=Row.ur (o:=0) Has.one (fun _ _=>rfl) rfl (Nat.le_refl _) rfl
 refine TT.seq (.region (.U hT 1 rfl (.nil (.seq (.seq (.region (.U hT 2 rfl (.slice i xs.length hT rfl rfl rfl rfl rfl ho.row (.inr ⟨_,rfl⟩) (.inl ⟨rfl,rfl⟩) (by omega) (by omega) rfl (fun JO Is=> ?_)))))))))
 refine OT.nil (.seq (.seq (.region (.U hT 3 rfl (.nil (.seq (.seq (.seq (.region (.U hT 2 rfl (.nil (.seq (.cond_false rfl (.skip (.seq (.seq (.region (.U hT 3 rfl (.nil (.seq (.seq (.seq (.region (.U hT 3 rfl (.nil (.seq (.cond rfl (fun l9=> ?_) (fun l9=> ?_))))))))))))))))))))))))))))
 .
  have l9:(i:Int)=xs.length:=by simpa using l9
  obtain rfl:i=xs.length:=by omega
  refine TT.seq (.region (.U hT 2 rfl ?_))
  refine OT.append hT j3 rfl rfl rfl rfl pl ho Df.there rfl (by simp only[List.length_singleton];omega) rfl (fun sI vG wu=> ?_)
  refine OT.U hT 1 rfl (.nil (.seq (.ret (.of (rs:=[.tmp 6]) [_] (vG::r) rfl (.tmp rfl .nil) sl ?_))))
  try dsimp only[one]
  exact⟨vG,rfl,by rw[<-uM];exact wu⟩
 .
  have l9:¬(i:Int)=xs.length:=by simpa using l9
  have hin:i<xs.length:=by omega
  obtain⟨b,o,rfl⟩:=zg ho (by omega)
  refine TT.skip (.seq (.seq (.seq (.region (.U hT 4 rfl (.cap hT rfl rfl rfl rfl (.U hT 1 rfl (.nil (.seq (.cond rfl (fun fF=> ?_) (fun fF=> ?_)))))))))))
  .
   have fF:(c:Int)<(xs.length:Int)+1:=by
    have:=of_decide_eq_true fF
    rw[wrap_i64 (by omega) (by omega)]at this;omega
   have AS:=(ho.row (hs:=r)).fD
   refine TT.seq (.region (.U hT 2 rfl (.cJ 0 i hT rfl rfl rfl rfl rfl (.inl ⟨rfl,rfl⟩) (.inr ⟨_,rfl⟩) (by omega) (by omega) (by omega) rfl (.U hT 5 rfl (.eH 39 rfl (v:= .int .i64 ((xs.length+1-i:Nat):Int)) (int_eq (by rw[wrap_i64 (n:=(xs.length:Int)+((1:Nat):Int)) (by omega) (by omega),wrap_i64 (by omega) (by omega)];omega)) ?_)))))
   have hro:=ho.lu (hs:=[(b2,blk (Go.Sx.cZ y) 3 (0,0))]::r) (L:=0) (M:=i) (by omega) (by omega) (by omega)
   rw[List.drop_zero]at hro
   have yl:(xs.take i).length=i:=by rw[List.length_take];omega
   refine OT.fO (z0:=(0:Int)) (m:=xs.length+1-i) Tryz.zeroValue3 rfl (by decide) hT j3 rfl rfl rfl rfl hro (by omega) (by rw[yl];rfl) (by rw[yl];omega) rfl (fun Gd MK ig=> ?_)
   obtain⟨b9,o9,c9,rfl⟩:=lH ig (by rw[List.length_append,List.length_replicate];omega)
   have vm:(xs.take i++List.replicate (xs.length+1-i) (0:Int)).length=xs.length+1:=by rw[List.length_append,List.length_replicate];omega
   rw[vm]at ig
   have L4:=(ig.row (hs:=r)).fD
   rw[vm]at L4⊢
   refine OT.U hT 1 rfl (.nil (.seq (.seq (.region (.U hT 2 rfl (.cJ i (xs.length+1) hT rfl rfl rfl rfl rfl (.inr ⟨_,rfl⟩) (.inl ⟨rfl,rfl⟩) (by omega) (by omega) (by omega) rfl (.U hT 1 rfl (.fc i hT rfl rfl rfl rfl pl ig (ys:=[y]) Df.there.there (by rw[vm];simp only[List.length_singleton];omega) (by omega) rfl rfl (fun ML pK=> ?_)))))))))
   rw[List.take_of_length_le (l:=[y]) (by show 1<=_;omega)]at pK
   refine OT.nil (.seq (.seq (.draw (r) mixed (.takes (fuel:=3) hT [0,1,2,3,5,6] kr kr rfl (.take (fuel:=2) hT 4 rfl rfl kr kr kr rfl (Fl.slice (i+1) (xs.length+1) hT rfl rfl rfl rfl (.inr ⟨.i64,by rw[wrap_i64 (by omega) (by omega)];exact congrArg some (int_eq (by omega))⟩) (.inl ⟨rfl,rfl⟩) (by omega) (by omega) (by omega)) rfl (.take (fuel:=1) hT 7 rfl rfl kr kr kr rfl (Fl.slice i xs.length hT rfl rfl rfl rfl (.inr ⟨_,rfl⟩) (.inl ⟨rfl,rfl⟩) (by omega) (by omega) (by omega)) rfl (.op (fuel:=0) 8 kr rfl sl ?_)))))))
   have vH:=ho.lu (hs:=[(b2,blk (Go.Sx.cZ y) 3 (0,0))]::r) (L:=i) (M:=xs.length) (by omega) (Nat.le_refl _) (by omega)
   rw[List.take_length]at vH
   have jr:(xs.drop i).length=xs.length-i:=List.length_drop
   have Dt:(over (xs.take i++List.replicate (xs.length+1-i) (0:Int)) i [y]).length=xs.length+1:=by rw[iA (by rw[vm];simp only[List.length_singleton];omega)];exact vm
   refine OT.fc (i+1) hT rfl rfl rfl rfl pl pK (ys:=xs.drop i) vH.there (by rw[Dt,jr];omega) (by omega) (lG _) rfl (fun vI pL=> ?_)
   rw[List.take_of_length_le (l:=xs.drop i) (by omega),uL hin rfl]at pL
   refine OT.nil (.any (.done kr sl (.seq (.seq (.region (.U hT 2 rfl (.nil (.seq (.ret (.of (rs:=[.tmp 6]) [_] (vI::r) rfl (.tmp rfl .nil) sl ?_))))))))))
   try dsimp only[one]
   exact⟨vI,rfl,pL⟩
  .
   have fF:¬(c:Int)<(xs.length:Int)+1:=by
    have:=of_decide_eq_false fF
    rw[wrap_i64 (by omega) (by omega)]at this;omega
   refine TT.skip (.seq (.seq (.region (.U hT 4 rfl (.cJ 0 (xs.length+1) hT rfl rfl rfl rfl rfl (.inl ⟨rfl,rfl⟩) (.inr ⟨.i64,by rw[wrap_i64 (by omega) (by omega)];exact congrArg some (int_eq (by omega))⟩) (by omega) (by omega) (by omega) rfl (.U hT 1 rfl (.nil (.seq (.seq (.seq (.region (.U hT 5 rfl (.eH 0 rfl (v:= .slice (some ⟨b,o,none⟩) (xs.length+1) c) (by rw[Nat.zero_mul,Nat.add_zero];rfl) (.eH 62 rfl (v:= .slice (some ⟨b,o,none⟩) (xs.length+1) c) (by rw[Nat.zero_mul,Nat.add_zero];rfl) (.cJ (i+1) (xs.length+1) hT rfl rfl rfl rfl rfl (.inr ⟨.i64,by rw[wrap_i64 (by omega) (by omega)];exact congrArg some (int_eq (by omega))⟩) (.inl ⟨rfl,rfl⟩) (by omega) (by omega) (by omega) rfl (.overlaps Tryz.func181 kr kr kr (tS:=22) (tR:=4) kr hT rfl rfl rfl rfl rfl pl ho (by omega) (by decide) Has.one ?_))))))))))))))))
   refine OT.U hT 1 rfl (.nil (.seq (.cond_true rfl (.seq (.draw (r) mixed (.takes (fuel:=3) hT [0,1,2,3,5,6] kr kr rfl (.take (fuel:=2) hT 4 rfl rfl kr kr kr rfl (Fl.slice (i+1) (xs.length+1) hT rfl rfl rfl rfl (.inr ⟨.i64,by rw[wrap_i64 (by omega) (by omega)];exact congrArg some (int_eq (by omega))⟩) (.inl ⟨rfl,rfl⟩) (by omega) (by omega) (by omega)) rfl (.take (fuel:=1) hT 7 rfl rfl kr kr kr rfl (Fl.slice i (xs.length+1) hT rfl rfl rfl rfl (.inr ⟨_,rfl⟩) (.inl ⟨rfl,rfl⟩) (by omega) (by omega) (by omega)) rfl (.op (fuel:=0) 8 kr rfl sl (.uK (i:=i) hT rfl rfl rfl rfl pl ho hin (by omega) (by omega) (by omega) (lG _) rfl (fun MM wv=> ?_)))))))))))
   refine OT.nil (.any (.done kr sl (.seq (.seq (.region (.U hT 2 rfl (.cJ i (xs.length+1) hT rfl rfl rfl rfl rfl (.inr ⟨_,rfl⟩) (.inl ⟨rfl,rfl⟩) (by omega) (by omega) (by omega) rfl (.U hT 1 rfl (.fc i hT rfl rfl rfl rfl pl wv (ys:=[y]) Df.there (by rw[List.length_append,List.length_take,List.length_drop];simp only[List.length_singleton];omega) (by rw[List.length_append,List.length_drop];omega) rfl rfl (fun vJ pM=> ?_))))))))))
   rw[List.take_of_length_le (l:=[y]) (by show 1<=_;omega),zf hin]at pM
   refine OT.nil (.seq (.seq (.region (.U hT 2 rfl (.nil (.seq (.ret (.of (rs:=[.tmp 6]) [_] (vJ::r) rfl (.tmp rfl .nil) sl ?_))))))))
   try dsimp only[one]
   exact⟨vJ,rfl,pM⟩
set_option maxHeartbeats 1000000 in
set_option maxRecDepth 100000 in
theorem Ai{v:Value}{xs:List Int}{i j:Nat}{H:Chunk}{r:List Chunk}(ho:Own Go.Sx.cZ 1 3 v xs H)(hij:i<=j)(hj:j<=xs.length)(hl:xs.length<=1073741824):ax Tryz.prog 151 [v,.int .i64 (i:Nat),.int .i64 (j:Nat)] (H::r) (fun v' hs'=>∃H',hs'=H'::r/\Own Go.Sx.cZ 1 3 v' (xs.take i++xs.drop j) H'):=by
 refine ax.enter 33 Tryz.func151 rfl Tryz.ntmps151 rfl ?_
 obtain⟨a0,c0,hv⟩:=(ho.row (hs:=r)).len
 subst hv
 have hc:=ho.cap.2
 have hlt:(xs.take i).length=i:=by rw[List.length_take];omega
 have jr:(xs.drop j).length=xs.length-j:=List.length_drop
 refine TT.seq (.region (.U hT 1 rfl (.nil (.seq (.seq (.region (.U hT 5 rfl (.slice3 i j xs.length hT rfl rfl rfl ho.row rfl rfl rfl (by omega) (by omega) (by omega) rfl (fun yI=> ?_)))))))))
 refine OT.nil (.seq (.seq (.seq (.region (.U hT 3 rfl (.nil (.seq (.cond rfl (fun fy=> ?_) (fun fy=> ?_)))))))))
 .
  have fy:(i:Int)=j:=by simpa using fy
  obtain rfl:i=j:=by omega
  refine TT.seq (.region (.U hT 2 rfl (.nil (.seq (.ret (.of (rs:=[.tmp 6]) [_] (H::r) rfl (.tmp rfl .nil) sl ?_))))))
  try dsimp only[one]
  exact⟨H,rfl,by rw[List.take_append_drop];exact ho⟩
 .
  refine TT.skip (.seq (.seq (.region (.U hT 3 rfl (.nil (.seq (.seq (.draw (r) mixed (.takes (fuel:=4) hT [0,1,3,4] kr kr rfl (.all (fuel:=3) [2,5] kr (by decide) sl ?_))))))))))
  intro i hi
  simp only[List.mem_cons,List.not_mem_nil,or_false]at hi
  rcases hi with rfl|rfl
  .
   refine⟨_,rfl,?_⟩
   refine OT.ja i hT rfl rfl rfl rfl ho (by omega) rfl (fun kG=> ?_)
   refine OT.nil (.any (.op (fuel:=2) 5 kr rfl sl (.slice j xs.length hT rfl rfl rfl rfl rfl ho.row (.inr ⟨_,rfl⟩) (.inl ⟨rfl,rfl⟩) (by omega) (by omega) rfl (fun sI kH=> ?_))))
   refine OT.nil (.any (.op (fuel:=1) 6 kr rfl sl (.eN hT j3 rfl rfl rfl rfl pl hlt.symm kG kH (lG _) (by rw[hlt,List.take_length,jr];omega) (by rw[List.take_length,jr];omega) rfl (fun vD gM=> ?_))))
   refine OT.nil (.any (.takes (fuel:=0) hT [7] kr kr rfl (.done kr sl (.seq (.seq (.region (.U hT 4 rfl (.bK (i+((xs.take xs.length).drop j).length) xs.length hT rfl rfl rfl rfl rfl (.inr ⟨_,rfl⟩) (.inr ⟨_,rfl⟩) (by rw[List.take_length,jr];omega) hc rfl (.eO j3 Tryz.zeroValue3 rfl rfl (by rw[List.length_append,hlt]) rfl rfl pl gM (by rw[List.take_length,jr];omega) hc (fun Dg kf=> ?_))))))))))
   refine OT.nil (.seq (.seq (.region (.U hT 2 rfl (.nil (.seq (.ret (.of (rs:=[.tmp 6]) [_] (Dg::r) rfl (.tmp rfl .nil) sl ?_))))))))
   try dsimp only[one]
   exact⟨_,rfl,by rw[List.take_length]at kf⊢;exact kf⟩
  .
   refine⟨_,rfl,?_⟩
   refine OT.slice j xs.length hT rfl rfl rfl rfl rfl ho.row (.inr ⟨_,rfl⟩) (.inl ⟨rfl,rfl⟩) (by omega) (by omega) rfl (fun sI kH=> ?_)
   refine OT.nil (.any (.op (fuel:=2) 2 kr rfl sl (.ja i hT rfl rfl rfl rfl ho (by omega) rfl (fun kG=> ?_))))
   refine OT.nil (.any (.op (fuel:=1) 6 kr rfl sl (.eN hT j3 rfl rfl rfl rfl pl hlt.symm kG kH (lG _) (by rw[hlt,List.take_length,jr];omega) (by rw[List.take_length,jr];omega) rfl (fun vD gM=> ?_))))
   refine OT.nil (.any (.takes (fuel:=0) hT [7] kr kr rfl (.done kr sl (.seq (.seq (.region (.U hT 4 rfl (.bK (i+((xs.take xs.length).drop j).length) xs.length hT rfl rfl rfl rfl rfl (.inr ⟨_,rfl⟩) (.inr ⟨_,rfl⟩) (by rw[List.take_length,jr];omega) hc rfl (.eO j3 Tryz.zeroValue3 rfl rfl (by rw[List.length_append,hlt]) rfl rfl pl gM (by rw[List.take_length,jr];omega) hc (fun Dg kf=> ?_))))))))))
   refine OT.nil (.seq (.seq (.region (.U hT 2 rfl (.nil (.seq (.ret (.of (rs:=[.tmp 6]) [_] (Dg::r) rfl (.tmp rfl .nil) sl ?_))))))))
   try dsimp only[one]
   exact⟨_,rfl,by rw[List.take_length]at kf⊢;exact kf⟩
end Go.Proofs.YtihpkgmfkbkffaaGreat.Sx
end
section
namespace Go.Proofs.YtihpkgmfkbkffaaGreat.Sx
open Go Go.Sx Go.Pl
variable[aq]
def dJ(I:Chunk->Prop)(E:Int->Chunk->Prop)(res:Int->Prop)(r:List Chunk)(v':Value)(hs':List Chunk):Prop:=∃e H',v'=sw e/\e≠0/\hs'=H'::r/\((res e/\I H')\/∃e0,E e0 H')
theorem x7{a b:ByteArray}{hs:List Chunk}:ax Tryz.prog 137 [.string a,.string b] hs fun v' hs'=>v'= .int .i64 (yD a b)/\hs=hs':=fun w hm=>(Tryz.strings_Compare a b w).mono fun e w' h=>by obtain⟨rfl,rfl⟩:=h;exact⟨_,_,rfl,⟨rfl,rfl⟩,hm⟩
set_option maxHeartbeats 1000000 in
set_option maxRecDepth 100000 in
theorem xw{x:Cell}{k:ByteArray}{hs:List Chunk}:ax Tryz.prog 136 [.agg ⟨aj x⟩,.string k] hs (fun v' hs'=>v'= .int .i64 (yD x.key k)/\hs=hs'):=by
 refine ax.enter 9 Tryz.func136 rfl Tryz.ntmps136 rfl ?_
 refine TT.seq (.region (.box rfl rfl rfl (fun b_2=> ?_)))
 refine OT.U hT 1 rfl (.nil (.seq (.seq (.region (.U hT 1 rfl (.load rfl rfl (Ld.one hT rfl hz rfl) rfl ?_))))))
 refine OT.U hT 1 rfl (.call Tryz.call137 rfl rfl rfl rfl (x7) ?_)
 rintro C_ qI ⟨rfl,rfl⟩
 refine OT.U hT 1 rfl (.nil (.seq (.ret (.of (rs:=[.tmp 4]) [_] hs rfl (.tmp rfl .nil) sl ?_))))
 try dsimp only[one]
 exact⟨rfl,rfl⟩
set_option maxHeartbeats 1000000 in
set_option maxRecDepth 100000 in
theorem Aj{v:Value}{cells:List Cell}{k:ByteArray}{hs:List Chunk}(hr:Row aj 8 hs v cells)(hl:cells.length<=1000000)(vN:rising (keysOf cells)):ax Tryz.prog 135 [v,.string k,.func (.func 136) #[] #[]] hs (fun v' hs'=>v'= .tuple ⟨[.int .i64 (aG (keysOf cells) k:Nat),.bool (decide ((keysOf cells)[aG (keysOf cells) k]? =some k))]⟩/\hs=hs'):=by
 refine ax.enter 49 Tryz.func135 rfl Tryz.ntmps135 rfl ?_
 obtain⟨a0,c0,hv⟩:=hr.len
 subst hv
 have ng:=wV cells
 refine TT.seq (.region (.U hT 2 rfl (.nil (.seq (.seq (.region (.U hT 3 rfl (.nil (.seq (.seq (.region (.U hT 3 rfl (.nil (.seq (.seq (.block (.loop (ι:=Nat×Nat) (fun j=>(j.1)<=(j.2)/\(j.2)<=cells.length/\(∀(z:Nat) (x:ByteArray),z<(j.1)->(keysOf cells)[z]? =some x->bY x k=true)/\(∀(z:Nat) (x:ByteArray),(j.2)<=z->(keysOf cells)[z]? =some x->bY x k=false)) (fun j=>(j.2)-(j.1)) (fun j=>[(0,.slice a0 cells.length c0),(1,.string k),(2,.func (.func 136) #[] #[]),(8,.int .i64 (cells.length:Nat)),(9,.int .i64 ((j.1):Nat)),(10,.int .i64 ((j.2):Nat))]) (fun j=>hs) (0,cells.length) ?_ (aa.cons rfl (aa.cons rfl (aa.cons rfl (aa.cons rfl (aa.cons rfl (aa.cons rfl (aa.nil _))))))) sl ?_)))))))))))))))))
 . dsimp only
   exact⟨by omega,by omega,fun j x h=>by omega,fun j x h hx=>by rw[List.getElem?_eq_none (by omega)]at hx;cases hx⟩
 rintro⟨p,q⟩ hI
 dsimp only at hI
 obtain⟨hpq,Oi,hlo,hhi⟩:=hI
 show TT _ _ _ [(0,.slice a0 cells.length c0),(1,.string k),(2,.func (.func 136) #[] #[]),(8,.int .i64 (cells.length:Nat)),(9,.int .i64 (p:Nat)),(10,.int .i64 (q:Nat))] (hs)
 refine TT.seq (.seq (.region (.U hT 3 rfl (.nil (.seq (.cond rfl (fun fC=> ?_) (fun fC=> ?_)))))))
 .
  have fC:=of_decide_eq_true fC
  obtain⟨x,hx⟩:=nth (l:=cells) (i:=(p+q)/2) (by omega)
  have Hy:=bG hx
  refine TT.skip (.seq (.block (.seq (.region (.U hT 7 rfl (.nil (.seq (.seq (.region (.U hT 3 rfl (.eH 11 rfl (v:= .int .i64 (((p+q)/2:Nat):Int)) (int_eq (half (by omega))) (.eH 26 rfl (v:= .int .i64 (((p+q)/2:Nat):Int)) (int_eq (half (by omega))) (.index hT rfl rfl rfl rfl hr (by omega) (by rw[Int.toNat_natCast];exact hx) rfl (fun Nx zn=> ?_))))))))))))))
  refine OT.load rfl rfl (zn.cy hT rfl) rfl (.U hT 1 rfl ?_)
  refine OT.Aw Tryz.call136 rfl rfl rfl rfl (xw) ?_
  rintro yF v8 ⟨rfl,rfl⟩
  refine OT.U hT 1 rfl (.eH 31 rfl (v:= .bool (bY x.key k)) (congrArg Value.bool (GJ _ _)) (.nil (.seq (.cond rfl (fun fF=> ?_) (fun fF=> ?_)))))
  .
   refine TT.region (.U hT 3 rfl (.nil (.blk (.loop ((p+q)/2+1,q) ?_ ?_ (aa.cons rfl (aa.cons rfl (aa.cons rfl (aa.cons rfl (aa.aD rfl (by(try dsimp only);exact(int_eq (by rw[wrap_i64 (by omega) (by omega)];omega))) (aa.cons rfl (aa.nil _))))))) sl))))
   . dsimp only
     refine⟨by omega,Oi,fun j y hj hy=> ?_,hhi⟩
     by_cases e:j=(p+q)/2
     . subst e;rw[Hy]at hy;cases hy;exact fF
     . exact bB (jh vN (by omega) hy Hy) fF
   . dsimp only
     omega
  .
   refine TT.region (.U hT 2 rfl (.nil (.blk (.loop (p,(p+q)/2) ?_ ?_ (aa.cons rfl (aa.cons rfl (aa.cons rfl (aa.cons rfl (aa.cons rfl (aa.cons rfl (aa.nil _))))))) sl))))
   . dsimp only
     refine⟨by omega,by omega,hlo,fun j y hj hy=> ?_⟩
     by_cases e:j=(p+q)/2
     . subst e;rw[Hy]at hy;cases hy;exact fF
     . cases hh:bY y k with
       |false=>rfl
       |true=>have:=bB (jh vN (by omega) Hy hy) hh;rw[fF]at this;cases this
   . dsimp only
     omega
 .
  have fC:=of_decide_eq_false fC
  obtain rfl:p=q:=by omega
  have hst:aG (keysOf cells) k=p:=oI.is ⟨by omega,hlo,hhi⟩
  refine TT.exit (.seq (.loop (.here (.seq (.seq (.region (.U hT 5 rfl (.split 39 rfl (fun Ox=> ?_) (fun Ox=> ?_)))))))))
  .
   obtain⟨y,hy⟩:=nth (l:=cells) (i:=p) (by have:=of_decide_eq_true Ox;omega)
   have O8:=bG hy
   refine OT.U hT 3 rfl (.index hT rfl rfl rfl rfl hr (by omega) (by rw[Int.toNat_natCast];exact hy) rfl (fun NG zw=> ?_))
   refine OT.load rfl rfl (zw.cy hT rfl) rfl (.U hT 1 rfl ?_)
   refine OT.Aw Tryz.call136 rfl rfl rfl rfl (xw) ?_
   rintro Gh NH ⟨rfl,rfl⟩
   refine OT.U hT 4 rfl (.nil (.seq (.ret (.of (rs:=[.tmp 6,.tmp 7]) [_,_] hs rfl (.tmp rfl (.tmp rfl .nil)) sl ?_))))
   try dsimp only[one]
   refine⟨?_,rfl⟩
   rw[hst,O8]
   refine congrArg (fun z=>Value.tuple ⟨[_,Value.bool z]⟩) ?_
   exact(GK _ _).trans (decide_eq_decide.2 (by simp))
  .
   have Ox:¬p<cells.length:=by have:=of_decide_eq_false Ox;omega
   refine OT.U hT 11 rfl (.nil (.seq (.ret (.of (rs:=[.tmp 6,.tmp 7]) [_,_] hs rfl (.tmp rfl (.tmp rfl .nil)) sl ?_))))
   try dsimp only[one]
   refine⟨?_,rfl⟩
   rw[hst,List.getElem?_eq_none (by omega)]
   rfl
set_option maxHeartbeats 1000000 in
set_option maxRecDepth 100000 in
theorem uU{cs:List Value}{n:Nd}{k:ByteArray}{hs:List Chunk}(h:fJ hs cs n)(hlc:n.cells.length<=1000)(vN:rising (keysOf n.cells)):ax Tryz.prog 96 [.agg ⟨cs⟩,.string k] hs (fun v' hs'=>v'= .tuple ⟨[.int .i64 (aG (keysOf n.cells) k:Nat),.bool (decide ((keysOf n.cells)[aG (keysOf n.cells) k]? =some k))]⟩/\hs=hs'):=by
 refine ax.enter 12 Tryz.func96 rfl Tryz.ntmps96 rfl ?_
 obtain⟨vc,vk,vi,rfl,hc,hk,hi⟩:=h.is
 obtain⟨ac,cc,e1⟩:=hc.len
 subst e1
 refine TT.seq (.region (.box rfl rfl rfl (fun b_2=> ?_)))
 refine OT.U hT 2 rfl (.nil (.seq (.seq (.region (.U hT 1 rfl (.load rfl rfl (Ld.slc hT rfl hz rfl) rfl ?_))))))
 refine OT.U hT 1 rfl (.call Tryz.call135 rfl rfl rfl rfl (Aj hc.there (by omega) vN) ?_)
 rintro IW yG ⟨rfl,rfl⟩
 refine OT.U hT 4 rfl (.nil (.seq (.ret (.of (rs:=[.tmp 4,.tmp 5]) [_,_] hs rfl (.tmp rfl (.tmp rfl .nil)) sl ?_))))
 try dsimp only[one]
 exact⟨rfl,rfl⟩
set_option maxHeartbeats 1000000 in
set_option maxRecDepth 100000 in
theorem Bq{P:Value}{I:Chunk->Prop}{E:Int->Chunk->Prop}{pg:Pg}{H:Chunk}{r:List Chunk}(hP:nC Tryz.prog 5 P I E pg)(hI:I H){no:Int}(hno: -9223372036854775808<=no/\no<=9223372036854775807):aH Tryz.prog 132 [P,.int .i64 no] (H::r) (fun v' hs'=>∃H' K bs,hs'=H'::K::r/\Own Go.Sx.bD 1 5 v' bs K/\I H'/\mg pg no= .ok bs) (dJ I E (fun e=>mg pg no= .error e) r):=by
 refine aH.enter 21 Tryz.func132 rfl Tryz.ntmps132 rfl ?_
 obtain⟨ti,ui,rfl⟩:=hP.iface
 refine TT.seq (.region (.U hT 1 rfl (.nil (.seq (.seq (.region (.U hT 2 rfl (.call Tryz.call118 rfl rfl rfl rfl (cT) ?_))))))))
 rintro IW yG ⟨rfl,rfl⟩
 refine OT.nil (.seq (.seq (.region (.U hT 2 rfl (.F_ hP rfl rfl rfl rfl pl hI (by omega) (by omega) (fun Ge MN V3 JP NI AH Iu=> ?_))))))
 refine OT.U hT 5 rfl (.nil (.seq (.seq (.region (.U hT 3 rfl ?_)))))
 refine OT.aR Tryz.call118 rfl rfl rfl rfl (aU) (fun _ _ h=>by
  obtain⟨hb,rfl,rfl⟩:=h
  have hb:JP≠0:=by simpa using hb
  refine PP.of ⟨JP,Ge,by rw[bJ hb],hb,rfl,?_⟩ sl
  rcases Iu with⟨h,_⟩|⟨_,_,⟨h1,h2⟩|h2⟩
  . exact absurd h hb
  . exact .inl ⟨by unfold mg;rw[if_neg (by rw[h1];exact hb),h1],h2⟩
  . exact .inr ⟨_,h2⟩) ?_
 rintro uf wz ⟨hb,rfl,rfl⟩
 have hb:JP=0:=by simpa using hb
 rcases Iu with⟨_,hx,fS⟩|⟨h,_⟩
 rotate_left
 . exact absurd hb h
 obtain⟨Xc,gm,rfl⟩:=(AH.row (hs:=[])).len
 refine OT.nil (.seq (.seq (.region (.U hT 2 rfl (.nil (.seq (.ret (.iF (rs:=[.tmp 4]) [_] (Ge::MN::r) rfl (.tmp rfl .nil) sl ?_))))))))
 try dsimp only[one]
 exact⟨Ge,MN,NI,rfl,AH,fS,by unfold mg;rw[hx];rfl⟩
set_option maxHeartbeats 1000000 in
set_option maxRecDepth 100000 in
theorem lE{P:Value}{I:Chunk->Prop}{E:Int->Chunk->Prop}{pg:Pg}{H:Chunk}{r:List Chunk}(hP:nC Tryz.prog 5 P I E pg)(hI:I H){no:Int}(hno: -9223372036854775808<=no/\no<=9223372036854775807):aH Tryz.prog 95 [P,.int .i64 no] (H::r) (fun v' hs'=>∃H' K cs n,hs'=H'::K::r/\v'= .agg ⟨cs⟩/\gL 113 9 3 cs n K/\I H'/\bP pg no= .ok n) (dJ I E (fun e=>bP pg no= .error e) r):=by
 refine aH.enter 18 Tryz.func95 rfl Tryz.ntmps95 rfl ?_
 refine TT.seq (.region (.alloc Tryz.zeroValue159 rfl rfl (fun nG=> ?_)))
 refine OT.nil (.seq (.seq (.region (.U hT 2 rfl ?_))))
 refine OT.aR Tryz.call132 rfl rfl rfl rfl (aH.pull pl (Bq hP hI hno)) (fun _ _ h=>by
  obtain⟨e,H',rfl,he,rfl,⟨h1,h2⟩|h2⟩:=h
  . exact PP.of ⟨e,H',rfl,he,rfl,.inl ⟨by unfold bP;rw[h1];rfl,h2⟩⟩ sl
  . exact PP.of ⟨e,H',rfl,he,rfl,.inr h2⟩ sl) ?_
 rintro oG jX ⟨H1,K1,bs,rfl,dU,fS,L5⟩
 refine OT.call Tryz.call134 rfl rfl rfl rfl (CI dU.row.there) ?_
 rintro oH iV ⟨K2,cs,n,e1,rfl,rfl,hN,hD⟩
 refine OT.U hT 3 rfl (.alloc Tryz.zeroValue159 rfl rfl (fun eM=> ?_))
 refine OT.ag hT rfl rfl rfl rfl pl (by exact hN.four) rfl hN.Jp (.inl (Nat.le_refl _)) ?_
 refine OT.U hT 1 rfl (.nil (.seq (.seq (.region (.U hT 2 rfl ?_)))))
 refine OT.aR Tryz.call118 rfl rfl rfl rfl (aU) (fun _ _ h=>by
  obtain⟨hb,rfl,rfl⟩:=h
  have hb:e1≠0:=by simpa using hb
  refine PP.of ⟨8,H1,by rw[bJ (by decide)],by decide,rfl,.inl ⟨?_,fS⟩⟩ sl
  rcases hD with⟨h,_⟩|⟨_,_,h⟩
  . exact absurd h hb
  . unfold bP;rw[L5];exact E1 h) ?_
 rintro uh pI ⟨hb,rfl,rfl⟩
 have hb:e1=0:=by simpa using hb
 have UT:bz bs n:=by rcases hD with⟨_,h⟩|⟨h,_⟩
                     . exact h
                     . rw[hb]at h;cases h
 refine OT.nil (.seq (.seq (.region (.load rfl rfl (Ld.af hT rfl hz hN.four) rfl ?_))))
 refine OT.ag hT rfl rfl rfl rfl pl (by exact hN.four) rfl hN.Jp (.inl (Nat.le_refl _)) ?_
 refine OT.nil (.seq (.ret (.iF (rs:=[.cell 4 159]) [_] (H1::K2::r) rfl (.cell rfl (Ld.af hT rfl hz hN.four) .nil) sl ?_)))
 try dsimp only[one]
 exact⟨H1,K2,cs,n,rfl,rfl,hN,fS,by unfold bP;rw[L5];exact Ba UT⟩
set_option maxHeartbeats 1000000 in
set_option maxRecDepth 100000 in
theorem qA{P:Value}{I:Chunk->Prop}{E:Int->Chunk->Prop}{pg:Pg}{H:Chunk}{r:List Chunk}(hP:nC Tryz.prog 5 P I E pg)(hI:I H):aH Tryz.prog 94 [P] (H::r) (fun v' hs'=>∃H' no,hs'=H'::r/\v'= .int .i64 no/\I H'/\b7 pg= .ok no) (dJ I E (fun e=>b7 pg= .error e) r):=by
 refine aH.enter 16 Tryz.func94 rfl Tryz.ntmps94 rfl ?_
 refine TT.seq (.region (.U hT 1 rfl (.nil (.seq (.seq (.region (.U hT 1 rfl ?_)))))))
 refine OT.aR Tryz.call132 rfl rfl rfl rfl (Bq hP hI (no:=1) (by omega)) (fun _ _ h=>by
  obtain⟨e,H',rfl,he,rfl,⟨h1,h2⟩|h2⟩:=h
  . exact PP.of ⟨e,H',rfl,he,rfl,.inl ⟨by unfold b7;rw[h1];rfl,h2⟩⟩ sl
  . exact PP.of ⟨e,H',rfl,he,rfl,.inr h2⟩ sl) ?_
 rintro IV vz ⟨H1,K1,bs,rfl,dU,fS,L5⟩
 refine OT.nil (.seq (.seq (.region (.U hT 1 rfl (.call Tryz.call133 rfl rfl rfl rfl (G0 hP fS) ?_)))))
 rintro IW yG ⟨H2,no,e2,rfl,rfl,R4⟩
 refine OT.U hT 5 rfl (.nil (.seq (.seq (.region (.U hT 2 rfl ?_)))))
 refine OT.aR Tryz.call118 rfl rfl rfl rfl (aU) (fun _ _ h=>by
  obtain⟨hb,rfl,rfl⟩:=h
  have hb:e2≠0:=by simpa using hb
  refine PP.of ⟨8,H2,by rw[bJ (by decide)],by decide,rfl,?_⟩ sl
  rcases R4 with⟨h1,h2⟩|⟨_,h2⟩
  . exact .inl ⟨by unfold b7;rw[L5];show(if _ then _ else _)=_;rw[<-h2,if_neg hb],h1⟩
  . exact .inr ⟨_,h2⟩) ?_
 rintro Dp wh ⟨hb,rfl,rfl⟩
 have hb:e2=0:=by simpa using hb
 rcases R4 with⟨dH,h2⟩|⟨h,_⟩
 rotate_left
 . exact absurd hb h
 refine OT.nil (.seq (.seq (.region (.U hT 2 rfl (.nil (.seq (.ret (.iF (rs:=[.tmp 2]) [_] (H2::r) rfl (.tmp rfl .nil) sl ?_))))))))
 try dsimp only[one]
 exact⟨H2,no,rfl,rfl,dH,by unfold b7;rw[L5];show(if _ then _ else _)=_;rw[<-h2,if_pos hb]⟩
set_option maxHeartbeats 1000000 in
set_option maxRecDepth 100000 in
theorem uV{cs:List Value}{n:Nd}{hs:List Chunk}(h:fJ hs cs n)(hlc:n.cells.length<=1000)(hlk:n.keys.length<=1000000)(vS:n.kids.length<=1000000)(hf:∀c∈n.cells,c.val.f<2^64/\c.new.f<2^64):ax Tryz.prog 176 [.agg ⟨cs⟩] hs (fun v' hs'=>v'= .bool (decide (Fits n))/\hs=hs'):=by
 refine ax.enter 12 Tryz.func176 rfl Tryz.ntmps176 rfl ?_
 have h4:cs.length=4:=by obtain⟨vc,vk,vi,e,_⟩:=h.is;rw[e];rfl
 refine TT.seq (.region (.box rfl rfl rfl (fun b_1=> ?_)))
 refine OT.U hT 1 rfl (.nil (.seq (.seq (.region (.load rfl rfl (Ld.af hT rfl hz h4) rfl ?_)))))
 refine OT.call Tryz.call144 rfl rfl rfl rfl (pe (h.mono fun _ _=> .there) hlc hlk vS hf) ?_
 rintro C9 sG ⟨KE,wE,rfl,rfl,Ov⟩
 refine OT.U hT 5 rfl (.nil (.seq (.seq (.region (.U hT 3 rfl (.nil (.seq (.ret (.of (rs:=[.tmp 2]) [_] hs rfl (.tmp rfl .nil) sl ?_)))))))))
 try dsimp only[one]
 refine⟨congrArg Value.bool ?_,rfl⟩
 rw[show((bS n).2==0)=decide ((bS n).2=0)from rfl]
 exact decide_eq_decide.2 ff
set_option maxHeartbeats 1000000 in
set_option maxRecDepth 100000 in
theorem oM{b:Nat}{P:Value}{I:Chunk->Prop}{E:Int->Chunk->Prop}{Qb:ah}(hP:cM Tryz.prog 5 P I E (aI Qb))(hQ:cC Qb){Qt:ah}{H:Chunk}{r:List Chunk}(hH:aM 110 b P I Qb Qt H){cs:List Value}{n:Nd}(h:fJ r cs n)(hlc:n.cells.length<=1000)(hlk:n.keys.length<=1000000)(vS:n.kids.length<=1000000)(hf:∀c∈n.cells,c.val.f<2^64/\c.new.f<2^64){no:Int}(hno:aF no):aH Tryz.prog 104 [.pointer (some ⟨b,0,none⟩),.int .i64 no,.agg ⟨cs⟩] (H::r) (fun v' hs'=>∃H' Q',hs'=H'::r/\v'= .tuple ⟨[]⟩/\jo Qt no n= .ok Q'/\aM 110 b P I Qb Q' H') (dJ (fun H=>∃Q',aM 110 b P I Qb Q' H) (cD 110 b P E) (fun e=>jo Qt no n= .error e) r):=by
 refine aH.enter 25 Tryz.func104 rfl Tryz.ntmps104 rfl ?_
 have h4:cs.length=4:=by obtain⟨vc,vk,vi,e,_⟩:=h.is;rw[e];rfl
 refine TT.seq (.region (.box rfl rfl rfl (fun eM=> ?_)))
 refine OT.nil (.seq (.seq (.region (.load rfl rfl (Ld.af hT rfl hz h4) rfl ?_))))
 refine OT.call Tryz.call144 rfl rfl rfl rfl (pe (hs:=_::H::r) (h.mono fun _ _ h=> .there (.there h)) hlc hlk vS hf) ?_
 rintro oG jX ⟨KE,wE,rfl,rfl,Ov⟩
 refine OT.U hT 5 rfl (.nil (.seq (.seq (.region (.U hT 3 rfl ?_)))))
 refine OT.aR Tryz.call118 rfl rfl rfl rfl (aU) (fun _ _ h=>by
  obtain⟨hb,rfl,rfl⟩:=h
  have hb:(bS n).2≠0:=by simpa using hb
  exact PP.of ⟨(bS n).2,H,by rw[bJ hb],hb,rfl,.inl ⟨by unfold jo;rw[if_neg hb],Qt,hH⟩⟩ sl) ?_
 rintro uh pI ⟨hb,rfl,rfl⟩
 have hb:(bS n).2=0:=by simpa using hb
 refine OT.nil (.seq (.seq (.region (.U hT 3 rfl (.call Tryz.call109 rfl rfl rfl rfl (ax.weaken sl (mO hP hQ hH (no:=no) (r:=KE::r) Ov.row hno (qo (ff.1 hb)))) ?_)))))
 rintro ug qR ⟨H2,rfl,rfl,dH⟩
 refine OT.U hT 1 rfl (.nil (.seq (.region (.U hT 3 rfl (.call Tryz.call118 rfl rfl rfl rfl (cT) ?_)))))
 rintro BI sZ ⟨rfl,rfl⟩
 refine OT.nil (.iF (rs:=[]) [] (H2::r) rfl .nil sl ?_)
 try dsimp only[one]
 exact⟨H2,_,rfl,rfl,by unfold jo;rw[if_pos hb],dH⟩
set_option maxHeartbeats 1000000 in
set_option maxRecDepth 100000 in
theorem uW{b:Nat}{P:Value}{I:Chunk->Prop}{E:Int->Chunk->Prop}{Qb:ah}(hP:cM Tryz.prog 5 P I E (aI Qb))(hQ:cC Qb){Qt:ah}{H:Chunk}{r:List Chunk}(hH:aM 110 b P I Qb Qt H):aH Tryz.prog 102 [.pointer (some ⟨b,0,none⟩)] (H::r) (fun v' hs'=>∃H' no Q',hs'=H'::r/\v'= .int .i64 no/\fA Qt= .ok (no,Q')/\aM 110 b P I Qb Q' H') (dJ (fun H=>∃Q',aM 110 b P I Qb Q' H) (cD 110 b P E) (fun e=>fA Qt= .error e) r):=by
 refine aH.enter 15 Tryz.func102 rfl Tryz.ntmps102 rfl ?_
 refine TT.seq (.region (.U hT 1 rfl (.nil (.seq (.seq (.region (.U hT 1 rfl (.call Tryz.call142 rfl rfl rfl rfl (G5 hP hQ hH) ?_))))))))
 rintro C9 sG ⟨H1,no,e1,rfl,rfl,m_⟩
 refine OT.U hT 5 rfl (.nil (.seq (.seq (.region (.U hT 3 rfl ?_)))))
 refine OT.aR Tryz.call118 rfl rfl rfl rfl (aU) (fun _ _ h=>by
  obtain⟨hb,rfl,rfl⟩:=h
  have hb:e1≠0:=by simpa using hb
  rcases m_ with⟨n,_,h,_⟩|⟨h1,rfl,h2⟩|⟨_,h2⟩
  . exact absurd h hb
  . exact PP.of ⟨4,H1,by rw[bJ hb],hb,rfl,.inl ⟨by unfold fA;rw[h1],Qt,h2⟩⟩ sl
  . exact PP.of ⟨e1,H1,by rw[bJ hb],hb,rfl,.inr h2⟩ sl) ?_
 rintro yI DR ⟨hb,rfl,rfl⟩
 have hb:e1=0:=by simpa using hb
 rcases m_ with⟨n,h1,_,rfl,dH⟩|⟨_,h,_⟩|⟨h,_⟩
 rotate_left
 . rw[hb]at h;cases h
 . exact absurd hb h
 refine OT.nil (.seq (.seq (.region (.U hT 2 rfl (.nil (.seq (.ret (.iF (rs:=[.tmp 2]) [_] (H1::r) rfl (.tmp rfl .nil) sl ?_))))))))
 try dsimp only[one]
 exact⟨H1,_,_,rfl,rfl,by unfold fA;rw[h1],dH⟩
set_option maxHeartbeats 1000000 in
set_option maxRecDepth 100000 in
theorem Br{b:Nat}{P:Value}{I:Chunk->Prop}{E:Int->Chunk->Prop}{Qb:ah}(hP:cM Tryz.prog 5 P I E (aI Qb))(hQ:cC Qb){Qt:ah}{H:Chunk}{r:List Chunk}(hH:aM 110 b P I Qb Qt H){no:Int}(hno:0<=no/\no<32):aH Tryz.prog 153 [.pointer (some ⟨b,0,none⟩),.int .i64 no] (H::r) (fun v' hs'=>∃H' Q',hs'=H'::r/\v'= .tuple ⟨[]⟩/\mh Qt no= .ok Q'/\aM 110 b P I Qb Q' H') (dJ (fun H=>∃Q',aM 110 b P I Qb Q' H) (cD 110 b P E) (fun e=>mh Qt no= .error e) r):=by
 refine aH.enter 11 Tryz.func153 rfl Tryz.ntmps153 rfl ?_
 obtain⟨n,rfl⟩:∃n:Nat,no=n:=⟨no.toNat,by omega⟩
 refine TT.seq (.region (.U hT 2 rfl (.call Tryz.call183 rfl rfl rfl rfl (G6 hP hQ hH (n:=n) (by omega)) ?_)))
 rintro C9 sG ⟨H1,e1,rfl,rfl,m_⟩
 refine OT.U hT 1 rfl (.nil (.seq (.region (.U hT 2 rfl ?_))))
 refine OT.aR Tryz.call118 rfl rfl rfl rfl (aU) (fun _ _ h=>by
  obtain⟨hb,rfl,rfl⟩:=h
  have hb:e1≠0:=by simpa using hb
  rcases m_ with⟨_,h,_⟩|⟨h1,rfl,h2⟩|⟨_,h2⟩
  . exact absurd h hb
  . exact PP.of ⟨8,H1,by rw[bJ (by decide)],by decide,rfl,.inl ⟨by unfold mh;rw[if_neg (by rw[h1];simp)],Qt,h2⟩⟩ sl
  . exact PP.of ⟨8,H1,by rw[bJ (by decide)],by decide,rfl,.inr h2⟩ sl) ?_
 rintro oG jX ⟨hb,rfl,rfl⟩
 have hb:e1=0:=by simpa using hb
 rcases m_ with⟨h1,_,dH⟩|⟨_,h,_⟩|⟨h,_⟩
 rotate_left
 . rw[hb]at h;cases h
 . exact absurd hb h
 refine OT.nil (.iF (rs:=[]) [] (H1::r) rfl .nil sl ?_)
 try dsimp only[one]
 exact⟨H1,_,rfl,rfl,by unfold mh;rw[if_pos h1];rfl,dH⟩
set_option maxHeartbeats 1000000 in
set_option maxRecDepth 100000 in
theorem jM{b:Nat}{P:Value}{I:Chunk->Prop}{E:Int->Chunk->Prop}{Qb:ah}(hP:cM Tryz.prog 5 P I E (aI Qb))(hQ:cC Qb){Qt:ah}{H:Chunk}{r:List Chunk}(hH:aM 110 b P I Qb Qt H){no:Int}(hno:no=0\/av no):aH Tryz.prog 103 [.pointer (some ⟨b,0,none⟩),.int .i64 no] (H::r) (fun v' hs'=>∃H',hs'=H'::r/\v'= .tuple ⟨[]⟩/\aM 110 b P I Qb (cg Qt no) H') (dJ (fun H=>∃Q',aM 110 b P I Qb Q' H) (cD 110 b P E) (fun e=>(.ok ():TE Unit)= .error e) r):=by
 refine aH.enter 12 Tryz.func103 rfl Tryz.ntmps103 rfl ?_
 refine TT.seq (.region (.U hT 2 rfl (.call Tryz.call143 rfl rfl rfl rfl (Ae hP hQ hH hno) ?_)))
 rintro C9 sG ⟨H1,e1,rfl,rfl,m_⟩
 refine OT.U hT 1 rfl (.nil (.seq (.region (.U hT 3 rfl ?_))))
 refine OT.aR Tryz.call118 rfl rfl rfl rfl (aU) (fun _ _ h=>by
  obtain⟨hb,rfl,rfl⟩:=h
  have hb:e1≠0:=by simpa using hb
  rcases m_ with⟨h,_⟩|⟨_,h2⟩
  . exact absurd h hb
  . exact PP.of ⟨e1,H1,by rw[bJ hb],hb,rfl,.inr h2⟩ sl) ?_
 rintro oH iV ⟨hb,rfl,rfl⟩
 have hb:e1=0:=by simpa using hb
 rcases m_ with⟨_,dH⟩|⟨h,_⟩
 rotate_left
 . exact absurd hb h
 refine OT.nil (.iF (rs:=[]) [] (H1::r) rfl .nil sl ?_)
 try dsimp only[one]
 exact⟨H1,rfl,rfl,dH⟩
end Go.Proofs.YtihpkgmfkbkffaaGreat.Sx
end
section
namespace Go.Proofs.YtihpkgmfkbkffaaGreat.Sx
open Go Go.Sx Go.Pl
variable[aq]
set_option maxHeartbeats 4000000 in
set_option maxRecDepth 100000 in
theorem t_{cs:List Value}{n:Nd}{hs0 hs:List Chunk}{i:Nat}(h:fJ hs0 cs n)(hh:∀b o,Has hs0 b o->Has hs b o)(hlc:n.cells.length<=1000)(vS:n.kids.length<=1000)(h1:1<=i)(h2:i<cu n)(h3:n.leaf=false->n.keys.length+1=n.kids.length)(hks:∀c∈n.cells,c.key.size<=1000000):ax Tryz.prog 177 [.agg ⟨cs⟩,.int .i64 (i:Nat)] hs (fun v' hs'=>∃cl cr,v'= .tuple ⟨[.agg ⟨cl⟩,.agg ⟨cr⟩,.string (aY n i).2.2]⟩/\hs'=hs/\fJ hs0 cl (aY n i).1/\fJ hs0 cr (aY n i).2.1/\dy cl=true/\dy cr=true):=by
 refine ax.enter 66 Tryz.func177 rfl Tryz.ntmps177 rfl ?_
 obtain⟨vc,vk,vi,rfl,hc,hk,hi⟩:=h.is
 obtain⟨ac,cc,e1⟩:=hc.len
 obtain⟨ak,ck,e2⟩:=hk.len
 obtain⟨ai,ci,e3⟩:=hi.len
 subst e1 e2 e3
 have jq:=hc.fD
 have ng:=hk.fD
 have hil:=hi.fD
 refine TT.seq (.region (.box rfl rfl rfl (fun b_2=> ?_)))
 refine OT.alloc Tryz.zeroValue159 rfl rfl (fun nG=> ?_)
 refine OT.alloc Tryz.zeroValue159 rfl rfl (fun eM=> ?_)
 refine OT.U hT 1 rfl (.nil (.seq (.seq (.seq (.region (.U hT 1 rfl (.load rfl rfl (Ld.one hT rfl hz rfl) rfl ?_)))))))
 refine OT.nil (.seq (.cond rfl (fun ew=> ?_) (fun ew=> ?_)))
 .
  unfold cu at h2;rw[if_pos ew]at h2
  rw[gf ew]
  obtain⟨xi,l6⟩:=nth (l:=n.cells) (i:=i) (by omega)
  obtain⟨xj,I4⟩:=nth (l:=n.cells) (i:=i-1) (by omega)
  rw[nQ l6,nQ I4]
  refine TT.seq (.draw (([(b_2,blk [.bool n.leaf,.slice ac n.cells.length cc,.slice ak n.keys.length ck,.slice ai n.kids.length ci] 159 (0,0))]::hs)) mixed (.takes (fuel:=10) hT [0,2,5,7] kr kr rfl (.take (fuel:=9) hT 1 rfl rfl kr kr kr rfl (.load rfl (Ld.slc hT rfl hz rfl)) rfl ?_)))
  refine AT.take (fuel:=8) hT 6 rfl rfl kr kr kr rfl (.load rfl (Ld.slc hT rfl hz rfl)) rfl ?_
  refine AT.take (fuel:=7) hT 3 rfl rfl kr kr kr rfl (Fl.bK 0 i hT rfl rfl rfl rfl (.inl ⟨rfl,rfl⟩) (.inr ⟨_,rfl⟩) (by omega) (by omega)) rfl (.take (fuel:=6) hT 4 rfl rfl kr kr kr rfl (fk (cs:=[.bool true,.slice (if cc=0 then ac else ac.map (·.add (0*8))) (i-0) (cc-0),.slice none 0 0,.slice none 0 0]) hT rfl Tryz.zeroValue159 rfl rfl) rfl (.take (fuel:=5) hT 8 rfl rfl kr kr kr rfl (Fl.bK i n.cells.length hT rfl rfl rfl rfl (.inr ⟨_,rfl⟩) (.inl ⟨rfl,rfl⟩) (by omega) (by omega)) rfl (.take (fuel:=4) hT 9 rfl rfl kr kr kr rfl (fk (cs:=[.bool true,.slice (if cc=i then ac else ac.map (·.add (i*8))) (n.cells.length-i) (cc-i),.slice none 0 0,.slice none 0 0]) hT rfl Tryz.zeroValue159 rfl rfl) rfl (.all (fuel:=3) [10,11] kr (by decide) sl ?_))))
  intro i hi
  simp only[List.mem_cons,List.not_mem_nil,or_false]at hi
  rcases hi with rfl|rfl
  .
   refine⟨_,rfl,?_⟩
   refine OT.alloc Tryz.zeroValue159 rfl rfl (fun ni=> ?_)
   refine OT.nil (.any (.op (fuel:=2) 11 kr rfl sl (.alloc Tryz.zeroValue159 rfl rfl (fun l8=> ?_))))
   refine OT.nil (.any (.op (fuel:=1) 12 kr rfl sl (.ag hT rfl rfl rfl rfl pl rfl rfl rfl (.inl (Nat.le_refl _)) ?_)))
   refine OT.nil (.any (.op (fuel:=0) 13 kr rfl sl (.ag hT rfl rfl rfl rfl pl rfl rfl rfl (.inl (Nat.le_refl _)) ?_)))
   refine OT.nil (.any (.done kr sl (.seq (.seq (.draw (([(ni,blk [.bool true,.slice (if cc=0 then ac else ac.map (·.add (0*8))) (i-0) (cc-0),.slice none 0 0,.slice none 0 0] 159 (0,0))]::[(l8,blk [.bool true,.slice (if cc=i then ac else ac.map (·.add (i*8))) (n.cells.length-i) (cc-i),.slice none 0 0,.slice none 0 0] 159 (0,0))]::[(b_2,blk [.bool n.leaf,.slice ac n.cells.length cc,.slice ak n.keys.length ck,.slice ai n.kids.length ci] 159 (0,0))]::hs)) mixed (.takes (fuel:=14) hT [2,4,5,9,11] kr kr rfl (.take (fuel:=13) hT 0 rfl rfl kr kr kr rfl (.load rfl (Ld.af hT rfl hz rfl)) rfl ?_)))))))
   refine AT.take (fuel:=12) hT 1 rfl rfl kr kr kr rfl (.load rfl (Ld.af hT rfl hz rfl)) rfl ?_
   refine AT.take (fuel:=11) hT 3 rfl rfl kr kr kr rfl (.load rfl (Ld.slc hT rfl hz rfl)) rfl ?_
   refine AT.take (fuel:=10) hT 10 rfl rfl kr kr kr rfl (.load rfl (Ld.slc hT rfl hz rfl)) rfl ?_
   refine AT.index (fuel:=9) hT 6 rfl kr kr kr rfl rfl rfl rfl ((hc.mono hh).there.there.there) (by rw[wrap_i64 (by omega) (by omega)];omega) (by rw[wrap_i64 (by omega) (by omega),show((i:Int)-1).toNat=i-1 by omega];exact I4) rfl (fun NJ zx=> ?_)
   obtain⟨NK,NL,rfl,uX⟩:=zx.at (P:=Tryz.prog)
   refine AT.takes (fuel:=8) hT [7] kr kr rfl (.take (fuel:=7) hT 8 rfl rfl kr kr kr rfl (.load rfl (uX hT rfl rfl)) rfl (.index (fuel:=6) hT 12 rfl kr kr kr rfl rfl rfl rfl ((hc.mono hh).there.there.there) (by omega) (by rw[Int.toNat_natCast];exact l6) rfl (fun wA gR=> ?_)))
   obtain⟨NM,NN,rfl,uY⟩:=gR.at (P:=Tryz.prog)
   refine AT.takes (fuel:=5) hT [13] kr kr rfl (.take (fuel:=4) hT 14 rfl rfl kr kr kr rfl (.load rfl (uY hT rfl rfl)) rfl (.op (fuel:=3) 15 kr rfl sl (.call Tryz.call201 rfl rfl rfl rfl (Ek (hks xi (List.mem_of_getElem? l6))) ?_)))
   rintro sJ AL ⟨rfl,rfl⟩
   refine OT.nil (.any (.op (fuel:=2) 16 kr rfl sl (.ag hT rfl rfl rfl rfl pl rfl rfl rfl (.inl (Nat.le_refl _)) ?_)))
   refine OT.nil (.any (.op (fuel:=1) 17 kr rfl sl (.ag hT rfl rfl rfl rfl pl rfl rfl rfl (.inl (Nat.le_refl _)) ?_)))
   refine OT.nil (.any (.takes (fuel:=0) hT [18] kr kr rfl (.done kr sl (.seq (.ret (.of (rs:=[.cell 4 159,.cell 5 159,.tmp 6]) [_,_,_] hs rfl (.cell rfl (Ld.af hT rfl hz rfl) (.cell rfl (Ld.af hT rfl hz rfl) (.tmp rfl .nil))) sl ?_))))))
   try dsimp only[one]
   exact⟨_,_,rfl,rfl,⟨_,_,_,rfl,kL hc (by omega),Row.nil,Row.nil⟩,⟨_,_,_,rfl,fY hc (by omega),Row.nil,Row.nil⟩,rfl,rfl⟩
  .
   refine⟨_,rfl,?_⟩
   refine OT.alloc Tryz.zeroValue159 rfl rfl (fun l8=> ?_)
   refine OT.nil (.any (.op (fuel:=2) 10 kr rfl sl (.alloc Tryz.zeroValue159 rfl rfl (fun ni=> ?_))))
   refine OT.nil (.any (.op (fuel:=1) 12 kr rfl sl (.ag hT rfl rfl rfl rfl pl rfl rfl rfl (.inl (Nat.le_refl _)) ?_)))
   refine OT.nil (.any (.op (fuel:=0) 13 kr rfl sl (.ag hT rfl rfl rfl rfl pl rfl rfl rfl (.inl (Nat.le_refl _)) ?_)))
   refine OT.nil (.any (.done kr sl (.seq (.seq (.draw (([(ni,blk [.bool true,.slice (if cc=0 then ac else ac.map (·.add (0*8))) (i-0) (cc-0),.slice none 0 0,.slice none 0 0] 159 (0,0))]::[(l8,blk [.bool true,.slice (if cc=i then ac else ac.map (·.add (i*8))) (n.cells.length-i) (cc-i),.slice none 0 0,.slice none 0 0] 159 (0,0))]::[(b_2,blk [.bool n.leaf,.slice ac n.cells.length cc,.slice ak n.keys.length ck,.slice ai n.kids.length ci] 159 (0,0))]::hs)) mixed (.takes (fuel:=14) hT [2,4,5,9,11] kr kr rfl (.take (fuel:=13) hT 0 rfl rfl kr kr kr rfl (.load rfl (Ld.af hT rfl hz rfl)) rfl ?_)))))))
   refine AT.take (fuel:=12) hT 1 rfl rfl kr kr kr rfl (.load rfl (Ld.af hT rfl hz rfl)) rfl ?_
   refine AT.take (fuel:=11) hT 3 rfl rfl kr kr kr rfl (.load rfl (Ld.slc hT rfl hz rfl)) rfl ?_
   refine AT.take (fuel:=10) hT 10 rfl rfl kr kr kr rfl (.load rfl (Ld.slc hT rfl hz rfl)) rfl ?_
   refine AT.index (fuel:=9) hT 6 rfl kr kr kr rfl rfl rfl rfl ((hc.mono hh).there.there.there) (by rw[wrap_i64 (by omega) (by omega)];omega) (by rw[wrap_i64 (by omega) (by omega),show((i:Int)-1).toNat=i-1 by omega];exact I4) rfl (fun NJ zx=> ?_)
   obtain⟨NK,NL,rfl,uX⟩:=zx.at (P:=Tryz.prog)
   refine AT.takes (fuel:=8) hT [7] kr kr rfl (.take (fuel:=7) hT 8 rfl rfl kr kr kr rfl (.load rfl (uX hT rfl rfl)) rfl (.index (fuel:=6) hT 12 rfl kr kr kr rfl rfl rfl rfl ((hc.mono hh).there.there.there) (by omega) (by rw[Int.toNat_natCast];exact l6) rfl (fun wA gR=> ?_)))
   obtain⟨NM,NN,rfl,uY⟩:=gR.at (P:=Tryz.prog)
   refine AT.takes (fuel:=5) hT [13] kr kr rfl (.take (fuel:=4) hT 14 rfl rfl kr kr kr rfl (.load rfl (uY hT rfl rfl)) rfl (.op (fuel:=3) 15 kr rfl sl (.call Tryz.call201 rfl rfl rfl rfl (Ek (hks xi (List.mem_of_getElem? l6))) ?_)))
   rintro sJ AL ⟨rfl,rfl⟩
   refine OT.nil (.any (.op (fuel:=2) 16 kr rfl sl (.ag hT rfl rfl rfl rfl pl rfl rfl rfl (.inl (Nat.le_refl _)) ?_)))
   refine OT.nil (.any (.op (fuel:=1) 17 kr rfl sl (.ag hT rfl rfl rfl rfl pl rfl rfl rfl (.inl (Nat.le_refl _)) ?_)))
   refine OT.nil (.any (.takes (fuel:=0) hT [18] kr kr rfl (.done kr sl (.seq (.ret (.of (rs:=[.cell 4 159,.cell 5 159,.tmp 6]) [_,_,_] hs rfl (.cell rfl (Ld.af hT rfl hz rfl) (.cell rfl (Ld.af hT rfl hz rfl) (.tmp rfl .nil))) sl ?_))))))
   try dsimp only[one]
   exact⟨_,_,rfl,rfl,⟨_,_,_,rfl,kL hc (by omega),Row.nil,Row.nil⟩,⟨_,_,_,rfl,fY hc (by omega),Row.nil,Row.nil⟩,rfl,rfl⟩
 .
  unfold cu at h2;rw[if_neg (by rw[ew];simp)]at h2
  have h3:=h3 ew
  rw[gh ew]
  obtain⟨xj,I4⟩:=nth (l:=n.keys) (i:=i-1) (by omega)
  have hgd:n.keys.getD (i-1) ⟨#[]⟩=xj:=by rw[List.getD_eq_getElem?_getD,I4];rfl
  rw[hgd]
  refine TT.skip (.seq (.seq (.draw (([(b_2,blk [.bool n.leaf,.slice ac n.cells.length cc,.slice ak n.keys.length ck,.slice ai n.kids.length ci] 159 (0,0))]::hs)) mixed (.takes (fuel:=14) hT [0,2,3,5,7,10,12,14,16] kr kr rfl (.take (fuel:=13) hT 1 rfl rfl kr kr kr rfl (.load rfl (Ld.slc hT rfl hz rfl)) rfl ?_)))))
  refine AT.take (fuel:=12) hT 6 rfl rfl kr kr kr rfl (.load rfl (Ld.slc hT rfl hz rfl)) rfl ?_
  refine AT.take (fuel:=11) hT 11 rfl rfl kr kr kr rfl (.load rfl (Ld.slc hT rfl hz rfl)) rfl ?_
  refine AT.take (fuel:=10) hT 15 rfl rfl kr kr kr rfl (.load rfl (Ld.slc hT rfl hz rfl)) rfl ?_
  refine AT.take (fuel:=9) hT 4 rfl rfl kr kr kr rfl (Fl.bK 0 (i-1) hT rfl rfl rfl rfl (.inl ⟨rfl,rfl⟩) (.inr ⟨.i64,congrArg some (int_eq (by rw[wrap_i64 (by omega) (by omega)];omega))⟩) (by omega) (by omega)) rfl (.take (fuel:=8) hT 8 rfl rfl kr kr kr rfl (Fl.bK 0 i hT rfl rfl rfl rfl (.inl ⟨rfl,rfl⟩) (.inr ⟨_,rfl⟩) (by omega) (by omega)) rfl (.take (fuel:=7) hT 9 rfl rfl kr kr kr rfl (fk (cs:=[.bool false,.slice none 0 0,.slice (if ck=0 then ak else ak.map (·.add (0*1))) (i-1-0) (ck-0),.slice (if ci=0 then ai else ai.map (·.add (0*1))) (i-0) (ci-0)]) hT rfl Tryz.zeroValue159 rfl rfl) rfl (.take (fuel:=6) hT 13 rfl rfl kr kr kr rfl (Fl.bK i n.keys.length hT rfl rfl rfl rfl (.inr ⟨_,rfl⟩) (.inl ⟨rfl,rfl⟩) (by omega) (by omega)) rfl (.take (fuel:=5) hT 17 rfl rfl kr kr kr rfl (Fl.bK i n.kids.length hT rfl rfl rfl rfl (.inr ⟨_,rfl⟩) (.inl ⟨rfl,rfl⟩) (by omega) (by omega)) rfl (.take (fuel:=4) hT 18 rfl rfl kr kr kr rfl (fk (cs:=[.bool false,.slice none 0 0,.slice (if ck=i then ak else ak.map (·.add (i*1))) (n.keys.length-i) (ck-i),.slice (if ci=i then ai else ai.map (·.add (i*1))) (n.kids.length-i) (ci-i)]) hT rfl Tryz.zeroValue159 rfl rfl) rfl (.all (fuel:=3) [19,20] kr (by decide) sl ?_))))))
  intro i hi
  simp only[List.mem_cons,List.not_mem_nil,or_false]at hi
  rcases hi with rfl|rfl
  .
   refine⟨_,rfl,?_⟩
   refine OT.alloc Tryz.zeroValue159 rfl rfl (fun mH=> ?_)
   refine OT.nil (.any (.op (fuel:=2) 20 kr rfl sl (.alloc Tryz.zeroValue159 rfl rfl (fun qK=> ?_))))
   refine OT.nil (.any (.op (fuel:=1) 21 kr rfl sl (.ag hT rfl rfl rfl rfl pl rfl rfl rfl (.inl (Nat.le_refl _)) ?_)))
   refine OT.nil (.any (.op (fuel:=0) 22 kr rfl sl (.ag hT rfl rfl rfl rfl pl rfl rfl rfl (.inl (Nat.le_refl _)) ?_)))
   refine OT.nil (.any (.done kr sl (.seq (.seq (.draw (([(mH,blk [.bool false,.slice none 0 0,.slice (if ck=0 then ak else ak.map (·.add (0*1))) (i-1-0) (ck-0),.slice (if ci=0 then ai else ai.map (·.add (0*1))) (i-0) (ci-0)] 159 (0,0))]::[(qK,blk [.bool false,.slice none 0 0,.slice (if ck=i then ak else ak.map (·.add (i*1))) (n.keys.length-i) (ck-i),.slice (if ci=i then ai else ai.map (·.add (i*1))) (n.kids.length-i) (ci-i)] 159 (0,0))]::[(b_2,blk [.bool n.leaf,.slice ac n.cells.length cc,.slice ak n.keys.length ck,.slice ai n.kids.length ci] 159 (0,0))]::hs)) mixed (.takes (fuel:=8) hT [2,4,5] kr kr rfl (.take (fuel:=7) hT 0 rfl rfl kr kr kr rfl (.load rfl (Ld.af hT rfl hz rfl)) rfl ?_)))))))
   refine AT.take (fuel:=6) hT 1 rfl rfl kr kr kr rfl (.load rfl (Ld.af hT rfl hz rfl)) rfl ?_
   refine AT.take (fuel:=5) hT 3 rfl rfl kr kr kr rfl (.load rfl (Ld.slc hT rfl hz rfl)) rfl ?_
   refine AT.index (fuel:=4) hT 6 rfl kr kr kr rfl rfl rfl rfl ((hk.mono hh).there.there.there) (by rw[wrap_i64 (by omega) (by omega)];omega) (by rw[wrap_i64 (by omega) (by omega),show((i:Int)-1).toNat=i-1 by omega];exact I4) rfl (fun NO zy=> ?_)
   refine AT.take (fuel:=3) hT 7 rfl rfl kr kr kr rfl (.load rfl (zy.ct hT rfl rfl)) rfl (.op (fuel:=2) 8 kr rfl sl (.ag hT rfl rfl rfl rfl pl rfl rfl rfl (.inl (Nat.le_refl _)) ?_))
   refine OT.nil (.any (.op (fuel:=1) 9 kr rfl sl (.ag hT rfl rfl rfl rfl pl rfl rfl rfl (.inl (Nat.le_refl _)) ?_)))
   refine OT.nil (.any (.takes (fuel:=0) hT [10] kr kr rfl (.done kr sl (.seq (.ret (.of (rs:=[.cell 4 159,.cell 5 159,.tmp 6]) [_,_,_] hs rfl (.cell rfl (Ld.af hT rfl hz rfl) (.cell rfl (Ld.af hT rfl hz rfl) (.tmp rfl .nil))) sl ?_))))))
   try dsimp only[one]
   exact⟨_,_,rfl,rfl,⟨_,_,_,rfl,Row.nil,kL hk (by omega),kL hi (by omega)⟩,⟨_,_,_,rfl,Row.nil,fY hk (by omega),fY hi (by omega)⟩,rfl,rfl⟩
  .
   refine⟨_,rfl,?_⟩
   refine OT.alloc Tryz.zeroValue159 rfl rfl (fun qK=> ?_)
   refine OT.nil (.any (.op (fuel:=2) 19 kr rfl sl (.alloc Tryz.zeroValue159 rfl rfl (fun mH=> ?_))))
   refine OT.nil (.any (.op (fuel:=1) 21 kr rfl sl (.ag hT rfl rfl rfl rfl pl rfl rfl rfl (.inl (Nat.le_refl _)) ?_)))
   refine OT.nil (.any (.op (fuel:=0) 22 kr rfl sl (.ag hT rfl rfl rfl rfl pl rfl rfl rfl (.inl (Nat.le_refl _)) ?_)))
   refine OT.nil (.any (.done kr sl (.seq (.seq (.draw (([(mH,blk [.bool false,.slice none 0 0,.slice (if ck=0 then ak else ak.map (·.add (0*1))) (i-1-0) (ck-0),.slice (if ci=0 then ai else ai.map (·.add (0*1))) (i-0) (ci-0)] 159 (0,0))]::[(qK,blk [.bool false,.slice none 0 0,.slice (if ck=i then ak else ak.map (·.add (i*1))) (n.keys.length-i) (ck-i),.slice (if ci=i then ai else ai.map (·.add (i*1))) (n.kids.length-i) (ci-i)] 159 (0,0))]::[(b_2,blk [.bool n.leaf,.slice ac n.cells.length cc,.slice ak n.keys.length ck,.slice ai n.kids.length ci] 159 (0,0))]::hs)) mixed (.takes (fuel:=8) hT [2,4,5] kr kr rfl (.take (fuel:=7) hT 0 rfl rfl kr kr kr rfl (.load rfl (Ld.af hT rfl hz rfl)) rfl ?_)))))))
   refine AT.take (fuel:=6) hT 1 rfl rfl kr kr kr rfl (.load rfl (Ld.af hT rfl hz rfl)) rfl ?_
   refine AT.take (fuel:=5) hT 3 rfl rfl kr kr kr rfl (.load rfl (Ld.slc hT rfl hz rfl)) rfl ?_
   refine AT.index (fuel:=4) hT 6 rfl kr kr kr rfl rfl rfl rfl ((hk.mono hh).there.there.there) (by rw[wrap_i64 (by omega) (by omega)];omega) (by rw[wrap_i64 (by omega) (by omega),show((i:Int)-1).toNat=i-1 by omega];exact I4) rfl (fun NO zy=> ?_)
   refine AT.take (fuel:=3) hT 7 rfl rfl kr kr kr rfl (.load rfl (zy.ct hT rfl rfl)) rfl (.op (fuel:=2) 8 kr rfl sl (.ag hT rfl rfl rfl rfl pl rfl rfl rfl (.inl (Nat.le_refl _)) ?_))
   refine OT.nil (.any (.op (fuel:=1) 9 kr rfl sl (.ag hT rfl rfl rfl rfl pl rfl rfl rfl (.inl (Nat.le_refl _)) ?_)))
   refine OT.nil (.any (.takes (fuel:=0) hT [10] kr kr rfl (.done kr sl (.seq (.ret (.of (rs:=[.cell 4 159,.cell 5 159,.tmp 6]) [_,_,_] hs rfl (.cell rfl (Ld.af hT rfl hz rfl) (.cell rfl (Ld.af hT rfl hz rfl) (.tmp rfl .nil))) sl ?_))))))
   try dsimp only[one]
   exact⟨_,_,rfl,rfl,⟨_,_,_,rfl,Row.nil,kL hk (by omega),kL hi (by omega)⟩,⟨_,_,_,rfl,Row.nil,fY hk (by omega),fY hi (by omega)⟩,rfl,rfl⟩
set_option maxHeartbeats 4000000 in
set_option maxRecDepth 100000 in
theorem Ep{b:Nat}{P:Value}{I:Chunk->Prop}{E:Int->Chunk->Prop}{Qb:ah}(hP:cM Tryz.prog 5 P I E (aI Qb))(hQ:cC Qb){Qt:ah}{H:Chunk}{r:List Chunk}(hH:aM 110 b P I Qb Qt H){cs:List Value}{n:Nd}(h:fJ r cs n)(hn:pF n)(h1c:dy cs=true){no:Int}(hno:aF no):aH Tryz.prog 146 [.pointer (some ⟨b,0,none⟩),.int .i64 no,.agg ⟨cs⟩] (H::r) (fun v' hs'=>∃H' x Q',hs'=H'::r/\v'= .agg ⟨[.string x.1,.int .i64 x.2]⟩/\lg Qt no n= .ok (x,Q')/\aM 110 b P I Qb Q' H') (dJ (fun H=>∃Q',aM 110 b P I Qb Q' H) (cD 110 b P E) (fun e=>lg Qt no n= .error e) r):=by
 refine aH.enter 92 Tryz.func146 rfl Tryz.ntmps146 rfl ?_
 have h4:=h.four
 have Xd:=Cb hn
 have hlc:=hn.cells
 have hlk:=hn.keys
 have vS:=hn.kids
 obtain⟨vc,vk,vi,hcs,UU,UW,UX⟩:=h.is
 obtain⟨ac,cc,e1⟩:=UU.len
 obtain⟨ak,ck,e2⟩:=UW.len
 obtain⟨ai,ci,e3⟩:=UX.len
 subst e1 e2 e3
 refine TT.seq (.region (.box rfl rfl rfl (fun eM=> ?_)))
 refine OT.alloc Tryz.zeroValue171 rfl rfl (fun gB=> ?_)
 refine OT.nil (.seq (.seq (.seq (.region (.load rfl rfl (Ld.af hT rfl hz h4) rfl ?_)))))
 refine OT.call Tryz.call176 rfl rfl rfl rfl (uV (h.mono fun _ _ h=> .there (.there (.there h))) hlc (by omega) (by omega) hn.fl) ?_
 rintro ug qR ⟨rfl,rfl⟩
 refine OT.nil (.seq (.cond rfl (fun um=> ?_) (fun um=> ?_)))
 .
  have um:Fits n:=of_decide_eq_true um
  refine TT.seq (.region (.U hT 2 rfl (.load rfl rfl (Ld.af hT rfl hz h4) rfl ?_)))
  refine OT.aR Tryz.call104 rfl rfl rfl rfl (aH.pull pl (oM hP hQ hH (h.mono fun _ _ h=> .there (.there h)) hlc (by omega) (by omega) hn.fl hno)) (fun _ _ h=>by
   obtain⟨e,H',rfl,he,rfl,⟨h1,h2⟩|h2⟩:=h
   . exact PP.of ⟨e,H',rfl,he,rfl,.inl ⟨(by rw[jb um]at h1;cases h1),h2⟩⟩ sl
   . exact PP.of ⟨e,H',rfl,he,rfl,.inr h2⟩ sl) ?_
  rintro BI sZ ⟨H2,Q2,rfl,rfl,ki,dH⟩
  rw[jb um]at ki
  injection ki with ki
  subst ki
  refine OT.nil (.seq (.seq (.region (.build hT rfl Tryz.zeroValue171 rfl rfl rfl rfl (.ag hT rfl rfl rfl rfl pl rfl rfl rfl (.inl (Nat.le_refl _)) ?_)))))
  refine OT.nil (.seq (.ret (.iF (rs:=[.cell 6 171]) [_] (H2::r) rfl (.cell rfl (Ld.af hT rfl hz rfl) .nil) sl ?_)))
  try dsimp only[one]
  exact⟨H2,kJ,_,rfl,rfl,nR um,dH⟩
 .
  have um:¬Fits n:=of_decide_eq_false um
  refine TT.skip (.seq (.seq (.region (.U hT 1 rfl (.load rfl rfl (Ld.slc hT rfl hz (by rw[hcs];rfl)) rfl ?_)))))
  refine OT.U hT 2 rfl (.nil (.seq (.cut (ι:=Unit) (fun j=>True) (fun j=>[(0,.pointer (some ⟨b,0,none⟩)),(1,.int .i64 no),(5,.pointer (some ⟨eM,0,none⟩)),(6,.pointer (some ⟨gB,0,none⟩)),(7,.int .i64 (cu n:Nat))]) (fun j=>[(gB,blk [.string ⟨#[]⟩,.int .i64 0] 171 (0,0))]::[(eM,blk cs 159 (0,0))]::H::r) ?_ ?_)))
  .
   refine TT.seq (.region (.U hT 1 rfl (.load rfl rfl (Ld.one hT rfl hz (by rw[hcs];rfl)) rfl ?_)))
   refine OT.U hT 1 rfl (.nil (.seq (.cond rfl (fun fF=> ?_) (fun fF=> ?_))))
   .
    refine TT.region (.U hT 1 rfl (.load rfl rfl (Ld.slc hT rfl hz (by rw[hcs];rfl)) rfl ?_))
    refine OT.U hT 2 rfl (.nil (.cut (()) ?_ (aa.cons rfl (aa.cons rfl (aa.cons rfl (aa.cons rfl (aa.aD rfl (by(try dsimp only);exact(int_eq (by unfold cu;rw[if_neg (by simpa using fF)]))) (aa.nil _)))))) sl))
    . trivial
   .
    refine TT.skip (.cut (()) ?_ (aa.cons rfl (aa.cons rfl (aa.cons rfl (aa.cons rfl (aa.aD rfl (by(try dsimp only);exact(int_eq (by unfold cu;rw[if_pos (by simpa using fF)]))) (aa.nil _)))))) sl)
    . trivial
  .
   rintro _ _
   show TT _ _ _ [(0,.pointer (some ⟨b,0,none⟩)),(1,.int .i64 no),(5,.pointer (some ⟨eM,0,none⟩)),(6,.pointer (some ⟨gB,0,none⟩)),(7,.int .i64 (cu n:Nat))] ([(gB,blk [.string ⟨#[]⟩,.int .i64 0] 171 (0,0))]::[(eM,blk cs 159 (0,0))]::H::r)
   refine TT.seq (.region (.U hT 2 rfl (.nil (.seq (.seq (.seq (.region (.U hT 1 rfl (.nil (.seq (.block (.loop (ι:=Nat×Nat×Nat) (fun j=>1<=(j.1)/\((j.1)=1\/(j.1)<=cu n)/\eJ n (j.1)=((j.2.1),(j.2.2))) (fun j=>cu n-(j.1)) (fun j=>[(0,.pointer (some ⟨b,0,none⟩)),(1,.int .i64 no),(5,.pointer (some ⟨eM,0,none⟩)),(6,.pointer (some ⟨gB,0,none⟩)),(7,.int .i64 (cu n:Nat)),(8,.int .i64 ((j.2.1):Nat)),(9,.int .i64 ((j.2.2):Nat)),(10,.int .i64 ((j.1):Nat))]) (fun j=>[(gB,blk [.string ⟨#[]⟩,.int .i64 0] 171 (0,0))]::[(eM,blk cs 159 (0,0))]::H::r) (1,0,0) ?_ (aa.cons rfl (aa.cons rfl (aa.cons rfl (aa.cons rfl (aa.cons rfl (aa.cons rfl (aa.cons rfl (aa.cons rfl (aa.nil _))))))))) sl ?_))))))))))))
   . dsimp only
     exact⟨by omega,.inl rfl,rfl⟩
   rintro⟨i,p,q⟩ hI
   dsimp only at hI
   obtain⟨hi1,hi2,I5⟩:=hI
   show TT _ _ _ [(0,.pointer (some ⟨b,0,none⟩)),(1,.int .i64 no),(5,.pointer (some ⟨eM,0,none⟩)),(6,.pointer (some ⟨gB,0,none⟩)),(7,.int .i64 (cu n:Nat)),(8,.int .i64 (p:Nat)),(9,.int .i64 (q:Nat)),(10,.int .i64 (i:Nat))] ([(gB,blk [.string ⟨#[]⟩,.int .i64 0] 171 (0,0))]::[(eM,blk cs 159 (0,0))]::H::r)
   refine TT.seq (.seq (.region (.U hT 3 rfl (.nil (.seq (.cond rfl (fun kn=> ?_) (fun kn=> ?_)))))))
   .
    have kn:=of_decide_eq_true kn
    have hlf:=hn.l i
    have AV:=hn.r i
    refine TT.skip (.seq (.seq (.block (.seq (.region (.load rfl rfl (Ld.af hT rfl hz h4) rfl ?_))))))
    refine OT.U hT 1 rfl (.call Tryz.call177 rfl rfl rfl rfl (t_ h (fun _ _ h=> .there (.there (.there h))) hlc vS hi1 (by omega) hn.ways hn.key) ?_)
    rintro Gg Iv ⟨cl,cr,rfl,rfl,FY,FZ,FM,I6⟩
    refine OT.U hT 4 rfl (.alloc Tryz.zeroValue159 rfl rfl (fun Gi=> ?_))
    refine OT.alloc Tryz.zeroValue159 rfl rfl (fun JQ=> ?_)
    refine OT.ag hT rfl rfl rfl rfl pl (by exact FY.four) rfl FM (.inl (Nat.le_refl _)) ?_
    refine OT.ag hT rfl rfl rfl rfl pl (by exact FZ.four) rfl I6 (.inl (Nat.le_refl _)) ?_
    refine OT.U hT 1 rfl (.nil (.seq (.seq (.draw (([(JQ,blk cr 159 (0,0))]::[(Gi,blk cl 159 (0,0))]::r)) mixed (.take (fuel:=5) hT 0 rfl rfl kr kr kr rfl (.load rfl (Ld.af hT rfl hz FY.four)) rfl ?_)))))
    refine AT.take (fuel:=4) hT 2 rfl rfl kr kr kr rfl (.load rfl (Ld.af hT rfl hz FZ.four)) rfl ?_
    refine AT.op (fuel:=3) 1 kr rfl sl (.call Tryz.call178 rfl rfl rfl rfl (Bo (FY.mono fun _ _ h=> .there (.there (.there (.there (.there h))))) hlf.1 hlf.2.1 hlf.2.2.1 hlf.2.2.2) ?_)
    rintro JM SX ⟨KS,rfl,rfl⟩
    refine OT.nil (.any (.op (fuel:=2) 3 kr rfl sl (.call Tryz.call178 rfl rfl rfl rfl (Bo (FZ.mono fun _ _ h=> .there (.there (.there (.there (.there (.there h)))))) AV.1 AV.2.1 AV.2.2.1 AV.2.2.2) ?_)))
    rintro BK AM ⟨Xe,rfl,rfl⟩
    refine OT.nil (.any (.takes (fuel:=0) hT [4,5] kr kr rfl (.done kr sl (.seq (.seq (.region (.load rfl rfl (Ld.af hT rfl hz FY.four) rfl ?_)))))))
    refine OT.eH 14 rfl (v:= .int .i64 ((nx n i:Nat):Int)) (int_eq (by unfold nx;omega)) ?_
    refine OT.call Tryz.call176 rfl rfl rfl rfl (uV (FY.mono fun _ _ h=>(.there (.there (.there (.there (.there (.there (.there h)))))))) hlf.1 hlf.2.1 hlf.2.2.1 hlf.2.2.2) ?_
    rintro JC Ik ⟨rfl,rfl⟩
    refine OT.U hT 1 rfl (.split 54 rfl (fun k8=> ?_) (fun k8=> ?_))
    .
     have k8:Fits (aY n i).1:=of_decide_eq_true k8
     refine OT.load rfl rfl (Ld.af hT rfl hz FZ.four) rfl ?_
     refine OT.call Tryz.call176 rfl rfl rfl rfl (uV (FZ.mono fun _ _ h=>(.there (.there (.there (.there (.there (.there (.there h)))))))) AV.1 AV.2.1 AV.2.2.1 AV.2.2.2) ?_
     rintro MO NP ⟨rfl,rfl⟩
     refine OT.U hT 2 rfl (.split 58 rfl (fun HE=> ?_) (fun HE=> ?_))
     .
      have HE:Fits (aY n i).2.1:=of_decide_eq_true HE
      refine OT.U hT 3 rfl (.split 61 rfl (fun I7=> ?_) (fun I7=> ?_))
      .
       have I7:p=0:=by simpa using I7
       refine OT.U hT 5 rfl (.nil (.seq (.cond_true rfl (.region (.U hT 4 rfl (.nil (.blk (.seq (.region (.U hT 3 rfl (.nil (.loop (i+1,i,nx n i) ?_ ?_ (aa.cons rfl (aa.cons rfl (aa.cons rfl (aa.cons rfl (aa.cons rfl (aa.cons rfl (aa.cons rfl (aa.aD rfl (by(try dsimp only);exact(int_eq (by rw[wrap_i64 (by omega) (by omega)];omega))) (aa.nil _))))))))) sl))))))))))))
       . dsimp only
         refine⟨by omega,.inr (by omega),?_⟩
         rw[ee n hi1,I5]
         exact if_pos ⟨k8,HE,.inl I7⟩
       . dsimp only
         omega
      .
       have I7:¬p=0:=by simpa using I7
       refine OT.U hT 5 rfl (.nil (.seq (.cond rfl (fun I8=> ?_) (fun I8=> ?_))))
       .
        have I8:=of_decide_eq_true I8
        refine TT.region (.U hT 4 rfl (.nil (.blk (.seq (.region (.U hT 3 rfl (.nil (.loop (i+1,i,nx n i) ?_ ?_ (aa.cons rfl (aa.cons rfl (aa.cons rfl (aa.cons rfl (aa.cons rfl (aa.cons rfl (aa.cons rfl (aa.aD rfl (by(try dsimp only);exact(int_eq (by rw[wrap_i64 (by omega) (by omega)];omega))) (aa.nil _))))))))) sl))))))))
        . dsimp only
          refine⟨by omega,.inr (by omega),?_⟩
          rw[ee n hi1,I5]
          exact if_pos ⟨k8,HE,.inr (by show nx n i<q;have:((nx n i:Nat):Int)<(q:Nat):=I8;omega)⟩
        . dsimp only
          omega
       .
        have I8:=of_decide_eq_false I8
        refine TT.skip (.blk (.seq (.region (.U hT 3 rfl (.nil (.loop (i+1,p,q) ?_ ?_ (aa.cons rfl (aa.cons rfl (aa.cons rfl (aa.cons rfl (aa.cons rfl (aa.cons rfl (aa.cons rfl (aa.aD rfl (by(try dsimp only);exact(int_eq (by rw[wrap_i64 (by omega) (by omega)];omega))) (aa.nil _))))))))) sl))))))
        . dsimp only
          refine⟨by omega,.inr (by omega),?_⟩
          rw[ee n hi1,I5]
          exact if_neg (fun h=>h.2.2.elim I7 (fun h=>I8 (by show((nx n i:Nat):Int)<(q:Nat);omega)))
        . dsimp only
          omega
     .
      have HE:¬Fits (aY n i).2.1:=of_decide_eq_false HE
      refine OT.U hT 8 rfl (.nil (.seq (.cond_false rfl (.skip (.blk (.seq (.region (.U hT 3 rfl (.nil (.loop (i+1,p,q) ?_ ?_ (aa.cons rfl (aa.cons rfl (aa.cons rfl (aa.cons rfl (aa.cons rfl (aa.cons rfl (aa.cons rfl (aa.aD rfl (by(try dsimp only);exact(int_eq (by rw[wrap_i64 (by omega) (by omega)];omega))) (aa.nil _))))))))) sl))))))))))
      . dsimp only
        refine⟨by omega,.inr (by omega),?_⟩
        rw[ee n hi1,I5]
        exact if_neg (fun h=>HE h.2.1)
      . dsimp only
        omega
    .
     have k8:¬Fits (aY n i).1:=of_decide_eq_false k8
     refine OT.U hT 12 rfl (.nil (.seq (.cond_false rfl (.skip (.blk (.seq (.region (.U hT 3 rfl (.nil (.loop (i+1,p,q) ?_ ?_ (aa.cons rfl (aa.cons rfl (aa.cons rfl (aa.cons rfl (aa.cons rfl (aa.cons rfl (aa.cons rfl (aa.aD rfl (by(try dsimp only);exact(int_eq (by rw[wrap_i64 (by omega) (by omega)];omega))) (aa.nil _))))))))) sl))))))))))
     . dsimp only
       refine⟨by omega,.inr (by omega),?_⟩
       rw[ee n hi1,I5]
       exact if_neg (fun h=>k8 h.1)
     . dsimp only
       omega
   .
    have kn:=of_decide_eq_false kn
    have Oy:dW n=p:=by
     unfold dW
     rcases hi2 with rfl|hi2
     . have h1:(eJ n 1).1=0:=by rcases lM n 1 with h|⟨h1,h2,_⟩
                                . exact h
                                . omega
       have h2:(eJ n (cu n)).1=0:=by rcases lM n (cu n)with h|⟨h1,h2,_⟩
                                     . exact h
                                     . omega
       rw[h2];rw[I5]at h1;exact h1.symm
     . rw[show cu n=i by omega,I5]
    refine TT.exit (.seq (.loop (.here (.seq (.seq (.region (.U hT 2 rfl ?_)))))))
    refine OT.aR Tryz.call118 rfl rfl rfl rfl (aU) (fun _ _ h=>by
     obtain⟨hb,rfl,rfl⟩:=h
     have hb:p=0:=by have:=of_decide_eq_false hb;omega
     exact PP.of ⟨8,H,by rw[bJ (by decide)],by decide,rfl,.inl ⟨E2 um (by rw[Oy];exact hb),Qt,hH⟩⟩ sl) ?_
    rintro Du AN ⟨hb,rfl,rfl⟩
    have hb:p≠0:=by have:=of_decide_eq_true hb;omega
    have UY:1<=p/\p<cu n/\Fits (aY n p).1/\Fits (aY n p).2.1:=by
     have hx:(eJ n (cu n)).1=p:=Oy
     rcases lM n (cu n)with h|h
     . rw[hx]at h;exact absurd h hb
     . rw[hx]at h;exact h
    obtain⟨FT,qF,vO,R5⟩:=UY
    have hlf:=hn.l p
    have AV:=hn.r p
    refine OT.nil (.seq (.seq (.region (.load rfl rfl (Ld.af hT rfl hz h4) rfl ?_))))
    refine OT.U hT 1 rfl (.call Tryz.call177 rfl rfl rfl rfl (t_ (i:=p) h (fun _ _ h=> .there (.there (.there h))) hlc vS FT qF hn.ways hn.key) ?_)
    rintro Qv NA ⟨cl,cr,rfl,rfl,FY,FZ,FM,I6⟩
    refine OT.U hT 4 rfl (.alloc Tryz.zeroValue159 rfl rfl (fun MP=> ?_))
    refine OT.alloc Tryz.zeroValue159 rfl rfl (fun V4=> ?_)
    refine OT.ag hT rfl rfl rfl rfl pl (by exact FY.four) rfl FM (.inl (Nat.le_refl _)) ?_
    refine OT.ag hT rfl rfl rfl rfl pl (by exact FZ.four) rfl I6 (.inl (Nat.le_refl _)) ?_
    refine OT.U hT 1 rfl (.nil (.seq (.seq (.region (.U hT 1 rfl ?_)))))
    refine OT.aR Tryz.call102 rfl rfl rfl rfl (aH.pull pl (uW hP hQ hH)) (fun _ _ h=>by
     obtain⟨e,H',rfl,he,rfl,⟨h1,h2⟩|h2⟩:=h
     . exact PP.of ⟨e,H',rfl,he,rfl,.inl ⟨oW um (by rw[Oy];exact hb) h1,h2⟩⟩ sl
     . exact PP.of ⟨e,H',rfl,he,rfl,.inr h2⟩ sl) ?_
    rintro V5 SY ⟨H2,to,Q1,rfl,rfl,ki,dH⟩
    have hto:=ru ki
    refine OT.U hT 1 rfl (.nil (.seq (.seq (.region (.U hT 2 rfl (.load rfl rfl (Ld.af hT rfl hz FY.four) rfl ?_))))))
    refine OT.aR Tryz.call104 rfl rfl rfl rfl (aH.pull pl (oM hP hQ dH (FY.mono fun _ _ h=>(.there (.there (.there (.there h))))) hlf.1 hlf.2.1 hlf.2.2.1 hlf.2.2.2 hno)) (fun _ _ h=>by
     obtain⟨e,H',rfl,he,rfl,⟨h1,h2⟩|h2⟩:=h
     . exact PP.of ⟨e,H',rfl,he,rfl,.inl ⟨(by rw[jb vO]at h1;cases h1),h2⟩⟩ sl
     . exact PP.of ⟨e,H',rfl,he,rfl,.inr h2⟩ sl) ?_
    rintro V6 SZ ⟨H3,Q2,rfl,rfl,FN,mq⟩
    rw[jb vO]at FN
    injection FN with FN
    subst FN
    refine OT.nil (.seq (.seq (.region (.U hT 2 rfl (.load rfl rfl (Ld.af hT rfl hz FZ.four) rfl ?_)))))
    refine OT.aR Tryz.call104 rfl rfl rfl rfl (aH.pull pl (oM hP hQ mq (FZ.mono fun _ _ h=>(.there (.there (.there (.there h))))) AV.1 AV.2.1 AV.2.2.1 AV.2.2.2 (by unfold aF;omega))) (fun _ _ h=>by
     obtain⟨e,H',rfl,he,rfl,⟨h1,h2⟩|h2⟩:=h
     . exact PP.of ⟨e,H',rfl,he,rfl,.inl ⟨(by rw[jb R5]at h1;cases h1),h2⟩⟩ sl
     . exact PP.of ⟨e,H',rfl,he,rfl,.inr h2⟩ sl) ?_
    rintro V7 S0 ⟨H4,Q3,rfl,rfl,HF,nk⟩
    rw[jb R5]at HF
    injection HF with HF
    subst HF
    refine OT.nil (.seq (.seq (.region (.U hT 2 rfl (.build hT rfl Tryz.zeroValue171 rfl rfl rfl rfl (.ag hT rfl rfl rfl rfl pl rfl rfl rfl (.inl (Nat.le_refl _)) ?_))))))
    refine OT.nil (.seq (.ret (.iF (rs:=[.cell 6 171]) [_] (H4::r) rfl (.cell rfl (Ld.af hT rfl hz rfl) .nil) sl ?_)))
    try dsimp only[one]
    subst Oy
    exact⟨H4,((aY n (dW n)).2.2,to),_,rfl,rfl,ry um hb ki,nk⟩
end Go.Proofs.YtihpkgmfkbkffaaGreat.Sx
end
section
namespace Go.Proofs.YtihpkgmfkbkffaaGreat.Sx
open Go Go.Sx Go.Pl
variable[aq]
theorem zz{cs:List Value}{n:Nd}{k:ByteArray}{hs:List Chunk}(h:fJ hs cs n)(hn:sD n)(hl:n.leaf=false):ax Tryz.prog 97 [.agg ⟨cs⟩,.string k] hs (fun v' hs'=>v'= .int .i64 (bM n.keys k:Nat)/\hs=hs'):=by
 have h1:=hn.cells;have h2:=hn.keys;have h3:=hn.kids
 refine(KM h (by omega) (by omega) (by omega)).mono ?_
 rintro v' hs' ⟨⟨h|h,_⟩|⟨_,_,i,hst,rfl⟩,rfl⟩
 . rw[hl]at h;cases h
 . exact absurd hn.may h
 . refine⟨int_eq ?_,rfl⟩
   unfold bM
   rw[hst.is]
   split<;>rfl
set_option maxHeartbeats 1000000 in
set_option maxRecDepth 100000 in
theorem Ak{b:Nat}{P:Value}{I:Chunk->Prop}{E:Int->Chunk->Prop}{Qb:ah}(hP:cM Tryz.prog 5 P I E (aI Qb))(hQ:cC Qb){x:Cell}(hx:aA x=true)(fR:x.val.f<2^64/\x.new.f<2^64){Qt:ah}{H:Chunk}{r:List Chunk}{no:Int}(hH:aM 110 b P I Qb Qt H):aH Tryz.prog 105 [.pointer (some ⟨b,0,none⟩),.int .i64 no,.agg ⟨aj x⟩,.int .i64 32] (H::r) (fun v' hs'=>∃H' y Q',hs'=H'::r/\v'= .agg ⟨[.string y.1,.int .i64 y.2]⟩/\bI x 0 Qt no= .ok (y,Q')/\aM 110 b P I Qb Q' H') (dJ (fun H=>∃Q',aM 110 b P I Qb Q' H) (cD 110 b P E) (fun e=>bI x 0 Qt no= .error e) r):=by
 refine aH.enter 86 Tryz.func105 rfl Tryz.ntmps105 rfl ?_
 refine TT.seq (.region (.box rfl rfl rfl (fun gB=> ?_)))
 refine OT.alloc Tryz.zeroValue171 rfl rfl (fun l8=> ?_)
 refine OT.nil (.seq (.seq (.region (.U hT 2 rfl ?_))))
 refine OT.aR Tryz.call118 rfl rfl rfl rfl (gl) (fun _ _ h=>by
  obtain⟨rfl,rfl⟩:=h
  exact PP.of ⟨8,H,by rw[bJ (by decide)],by decide,rfl,.inl ⟨rfl,Qt,hH⟩⟩ sl) ?_
 rintro uh pI ⟨hb,_⟩
 exact hb.elim
set_option maxHeartbeats 4000000 in
set_option maxRecDepth 100000 in
theorem Al{b:Nat}{P:Value}{I:Chunk->Prop}{E:Int->Chunk->Prop}{Qb:ah}(hP:cM Tryz.prog 5 P I E (aI Qb))(hQ:cC Qb){x:Cell}(hx:aA x=true)(fR:x.val.f<2^64/\x.new.f<2^64){d f:Nat}(hd:d<32)(ih:∀{Q:ah} {H:Chunk} {r:List Chunk} {no:Int},av no->aM 110 b P I Qb Q H->aH Tryz.prog 105 [.pointer (some ⟨b,0,none⟩),.int .i64 no,.agg ⟨aj x⟩,.int .i64 ((d+1:Nat):Int)] (H::r) (fun v' hs'=>∃H' y Q',hs'=H'::r/\v'= .agg ⟨[.string y.1,.int .i64 y.2]⟩/\bI x f Q no= .ok (y,Q')/\aM 110 b P I Qb Q' H') (dJ (fun H=>∃Q',aM 110 b P I Qb Q' H) (cD 110 b P E) (fun e=>bI x f Q no= .error e) r)){Qt:ah}{H:Chunk}{r:List Chunk}{no:Int}(hno:av no)(hH:aM 110 b P I Qb Qt H):aH Tryz.prog 105 [.pointer (some ⟨b,0,none⟩),.int .i64 no,.agg ⟨aj x⟩,.int .i64 (d:Nat)] (H::r) (fun v' hs'=>∃H' y Q',hs'=H'::r/\v'= .agg ⟨[.string y.1,.int .i64 y.2]⟩/\bI x (f+1) Qt no= .ok (y,Q')/\aM 110 b P I Qb Q' H') (dJ (fun H=>∃Q',aM 110 b P I Qb Q' H) (cD 110 b P E) (fun e=>bI x (f+1) Qt no= .error e) r):=by
 refine aH.enter 86 Tryz.func105 rfl Tryz.ntmps105 rfl ?_
 refine TT.seq (.region (.box rfl rfl rfl (fun gB=> ?_)))
 refine OT.alloc Tryz.zeroValue171 rfl rfl (fun l8=> ?_)
 refine OT.nil (.seq (.seq (.region (.U hT 2 rfl ?_))))
 refine OT.aR Tryz.call118 rfl rfl rfl rfl (aU) (fun _ _ h=>by
  obtain⟨hb,_⟩:=h
  exact absurd (of_decide_eq_false hb) (by omega)) ?_
 rintro uh pI ⟨hb,rfl,rfl⟩
 refine OT.nil (.seq (.seq (.region (.U hT 1 rfl (.bU Tryz.underlying24 rfl rfl rfl rfl (.U hT 1 rfl ?_))))))
 refine OT.aR Tryz.call95 rfl rfl rfl rfl (aH.pull pl (lE (b_ hP hQ).CZ hH (gI hno))) (fun _ _ h=>by
  obtain⟨e,H',rfl,he,rfl,⟨h1,h2⟩|⟨_,e0,h2⟩⟩:=h
  . exact PP.of ⟨e,H',rfl,he,rfl,.inl ⟨xJ h1,_,h2⟩⟩ sl
  . exact PP.of ⟨e,H',rfl,he,rfl,.inr ⟨_,h2⟩⟩ sl) ?_
 rintro ug qR ⟨H1,K,cs,n,rfl,rfl,hN,fS,hrd⟩
 have hni:=(gS hrd).nd
 have hnc:=hni.cells
 have hnk:=hni.keys
 have hnd:=hni.kids
 obtain⟨vc,vk,vi,KA,KB,KC,rfl,rfl,pQ,pR,nj⟩:=hN.is
 obtain⟨ac,cc,e1⟩:=(pQ.row (hs:=[])).len
 obtain⟨ak,ck,e2⟩:=(pR.row (hs:=[])).len
 obtain⟨ai,ci,e3⟩:=(nj.row (hs:=[])).len
 subst e1 e2 e3
 refine OT.perm gH ?_
 have HG:∀hs,fJ (KA::KB::KC::hs) [.bool n.leaf,.slice ac n.cells.length cc,.slice ak n.keys.length ck,.slice ai n.kids.length ci] n:=fun hs=>⟨_,_,_,rfl,pQ.row,pR.row.there,nj.row.there.there⟩
 refine OT.alloc Tryz.zeroValue159 rfl rfl (fun mH=> ?_)
 refine OT.ag hT rfl rfl rfl rfl pl rfl rfl rfl (.inl (Nat.le_refl _)) ?_
 refine OT.nil (.seq (.seq (.seq (.region (.U hT 1 rfl (.load rfl rfl (Ld.one hT rfl hz rfl) rfl ?_))))))
 refine OT.nil (.seq (.cond rfl (fun l9=> ?_) (fun l9=> ?_)))
 .
  have hlf:n.leaf=true:=l9
  refine TT.seq (.region (.load rfl rfl (Ld.af hT rfl hz rfl) rfl ?_))
  refine OT.U hT 1 rfl (.load rfl rfl (Ld.one hT rfl hz rfl) rfl ?_)
  refine OT.call Tryz.call96 rfl rfl rfl rfl (uU ((HG _).mono fun _ _ h=>(.there (.there h))) (by omega) hni.fq) ?_
  rintro BF wj ⟨rfl,rfl⟩
  refine OT.U hT 5 rfl (.nil (.seq (.cut (ι:=Value×Chunk) (fun j=>Own aj 8 113 (j.1) (bZ n.cells x) (j.2)) (fun j=>[(0,.pointer (some ⟨b,0,none⟩)),(1,.int .i64 no),(6,.pointer (some ⟨gB,0,none⟩)),(8,.pointer (some ⟨l8,0,none⟩)),(9,.pointer (some ⟨mH,0,none⟩))]) (fun j=>[(mH,blk [.bool n.leaf,(j.1),.slice ak n.keys.length ck,.slice ai n.kids.length ci] 159 (0,0))]::H1::(j.2)::KB::KC::[(l8,blk [.string ⟨#[]⟩,.int .i64 0] 171 (0,0))]::[(gB,blk (aj x) 113 (0,0))]::r) ?_ ?_)))
  .
   refine TT.seq (.region (.U hT 1 rfl (.nil (.seq (.cond rfl (fun iZ=> ?_) (fun iZ=> ?_))))))
   .
    have iZ:=of_decide_eq_true iZ
    obtain⟨z,m9,yo⟩:=dO iZ
    refine TT.region (.U hT 1 rfl (.load rfl rfl (Ld.slc hT rfl hz rfl) rfl ?_))
    refine OT.U hT 1 rfl (.load rfl rfl (Ld.af hT rfl hz rfl) rfl ?_)
    refine OT.BX hT rfl rfl rfl rfl pQ (by omega) (by have:=(List.getElem?_eq_some_iff.1 m9).1;omega) rfl (fun NQ NR NS NT=> ?_)
    obtain⟨rfl,rfl⟩:ac=some ⟨NQ,NR,none⟩/\cc=NS:=by injection NT with h1 _ h3;exact⟨h1,h3⟩
    refine OT.fe (aG (keysOf n.cells) x.key) 0 hT rfl rfl rfl rfl pl pQ m9 rfl rfl (by decide) rfl (show splice (aj z) 0 (aj x)=aj x from rfl) (fun BQ nv=> ?_)
    refine OT.nil (.cut (_,BQ) ?_ (aa.cons rfl (aa.cons rfl (aa.cons rfl (aa.cons rfl (aa.cons rfl (aa.nil _)))))) sl)
    . dsimp only
      rw[qs iZ];exact nv
   .
    have iZ:=of_decide_eq_false iZ
    refine TT.region (.U hT 1 rfl (.load rfl rfl (Ld.slc hT rfl hz rfl) rfl ?_))
    refine OT.U hT 1 rfl (.load rfl rfl (Ld.af hT rfl hz rfl) rfl ?_)
    refine OT.dF (enc:=aj) (xs:=[x]) (ij:=[.tmp 39]) iU rfl rfl rfl rfl rfl (by simp[Value.cells];rfl) (fun _ _=>rfl) rfl (by decide) rfl (fun V8=> ?_)
    refine OT.call Tryz.call145 rfl rfl rfl rfl (ax.weaken sl (Af (y:=x) pQ (Nat.le_trans List.findIdx_le_length (by rw[wV];exact Nat.le_refl _)) (by omega))) ?_
    rintro JB DS ⟨H7,rfl,vo⟩
    obtain⟨a7,c7,rfl⟩:=(vo.row (hs:=[])).len
    refine OT.U hT 1 rfl (.store hT rfl rfl rfl rfl pl rfl (Nat.le_of_ble_eq_true rfl) rfl (.inl (Nat.le_refl _)) rfl ?_)
    refine OT.nil (.cut (_,H7) ?_ (aa.cons rfl (aa.cons rfl (aa.cons rfl (aa.cons rfl (aa.cons rfl (aa.nil _)))))) sl)
    . dsimp only
      rw[rz iZ];exact vo
  .
   rintro⟨R6,K2⟩ hI
   dsimp only at hI
   have MQ:=hI
   show TT _ _ _ [(0,.pointer (some ⟨b,0,none⟩)),(1,.int .i64 no),(6,.pointer (some ⟨gB,0,none⟩)),(8,.pointer (some ⟨l8,0,none⟩)),(9,.pointer (some ⟨mH,0,none⟩))] ([(mH,blk [.bool n.leaf,R6,.slice ak n.keys.length ck,.slice ai n.kids.length ci] 159 (0,0))]::H1::K2::KB::KC::[(l8,blk [.string ⟨#[]⟩,.int .i64 0] 171 (0,0))]::[(gB,blk (aj x) 113 (0,0))]::r)
   refine TT.seq (.region (.U hT 2 rfl (.load rfl rfl (Ld.af hT rfl hz rfl) rfl ?_)))
   refine OT.aR Tryz.call146 rfl rfl rfl rfl (aH.pull pl (Ep hP hQ fS (n:={n with cells:=bZ n.cells x}) ⟨_,_,_,rfl,MQ.row.there,pR.row.there.there,nj.row.there.there.there⟩ (hni.E4 hlf hx fR) (Bb (lA MQ) rfl rfl) (jc hno))) (fun _ _ h=>by
    obtain⟨e,H',rfl,he,rfl,⟨h1,h2⟩|h2⟩:=h
    . exact PP.of ⟨e,H',rfl,he,rfl,.inl ⟨(by rw[gC hrd hlf];exact h1),h2⟩⟩ sl
    . exact PP.of ⟨e,H',rfl,he,rfl,.inr h2⟩ sl) ?_
   rintro Gh NH ⟨H2,y,Q2,rfl,rfl,qF,dH⟩
   refine OT.ag hT rfl rfl rfl rfl pl rfl rfl rfl (.inl (Nat.le_refl _)) ?_
   refine OT.nil (.seq (.ret (.iF (rs:=[.cell 8 171]) [_] (H2::r) rfl (.cell rfl (Ld.af hT rfl hz rfl) .nil) sl ?_)))
   try dsimp only[one]
   exact⟨H2,y,Q2,rfl,rfl,by rw[gC hrd hlf];exact qF,dH⟩
 .
  have hlf:n.leaf=false:=l9
  obtain⟨kd,F0,yV,hkm⟩:=hni.b8 hlf x.key
  have ng:=gA n.keys x.key
  have hkk:=(hni.ways hlf).1
  refine TT.skip (.seq (.seq (.region (.load rfl rfl (Ld.af hT rfl hz rfl) rfl ?_))))
  refine OT.U hT 1 rfl (.load rfl rfl (Ld.one hT rfl hz rfl) rfl ?_)
  refine OT.call Tryz.call97 rfl rfl rfl rfl (zz ((HG _).mono fun _ _ h=>(.there (.there h))) hni hlf) ?_
  rintro BK AM ⟨rfl,rfl⟩
  refine OT.U hT 1 rfl (.nil (.seq (.cut (ι:=Nat×Chunk×Part×ah) (fun j=>bI x f Qt kd= .ok ((j.2.2.1),(j.2.2.2))/\aM 110 b P I Qb (j.2.2.2) (j.2.1)) (fun j=>[(0,.pointer (some ⟨b,0,none⟩)),(1,.int .i64 no),(8,.pointer (some ⟨l8,0,none⟩)),(9,.pointer (some ⟨mH,0,none⟩)),(12,.int .i64 (bM n.keys x.key:Nat)),(13,.pointer (some ⟨(j.1),0,none⟩))]) (fun j=>[((j.1),blk [.string (j.2.2.1).1,.int .i64 (j.2.2.1).2] 171 (0,0))]::[(mH,blk [.bool n.leaf,.slice ac n.cells.length cc,.slice ak n.keys.length ck,.slice ai n.kids.length ci] 159 (0,0))]::(j.2.1)::KA::KB::KC::[(l8,blk [.string ⟨#[]⟩,.int .i64 0] 171 (0,0))]::[(gB,blk (aj x) 113 (0,0))]::r) ?_ ?_)))
  .
   refine TT.draw (([(mH,blk [.bool n.leaf,.slice ac n.cells.length cc,.slice ak n.keys.length ck,.slice ai n.kids.length ci] 159 (0,0))]::KC::[(gB,blk (aj x) 113 (0,0))]::r)) mixed (.takes (fuel:=7) hT [0,1,3,7,8] kr kr rfl (.take (fuel:=6) hT 2 rfl rfl kr kr kr rfl (.load rfl (Ld.slc hT rfl hz rfl)) rfl ?_))
   refine AT.take (fuel:=5) hT 6 rfl rfl kr kr kr rfl (.load rfl (Ld.af hT rfl hz rfl)) rfl ?_
   refine AT.index (fuel:=4) hT 4 rfl kr kr kr rfl rfl rfl rfl nj.row.there (by omega) (by rw[Int.toNat_natCast];exact F0) rfl (fun S1 KQ=> ?_)
   refine AT.take (fuel:=3) hT 5 rfl rfl kr kr kr rfl (.load rfl (KQ.ct hT rfl rfl)) rfl (.all (fuel:=2) [9,10] kr (by decide) sl ?_)
   intro i hi
   simp only[List.mem_cons,List.not_mem_nil,or_false]at hi
   rcases hi with rfl|rfl
   .
    refine⟨_,rfl,?_⟩
    refine OT.eH 59 rfl (v:= .int .i64 ((d+1:Nat):Int)) (int_eq (by rw[wrap_i64 (by omega) (by omega)];omega)) ?_
    refine OT.aR Tryz.call105 rfl rfl rfl rfl (aH.pull pl (ih hkm fS)) (fun _ _ h=>by
     obtain⟨e,H',rfl,he,rfl,⟨h1,h2⟩|h2⟩:=h
     . exact PP.of ⟨e,H',rfl,he,rfl,.inl ⟨gv hrd hlf (by rw[yV];exact h1),h2⟩⟩ sl
     . exact PP.of ⟨e,H',rfl,he,rfl,.inr h2⟩ sl) ?_
    rintro MD Il ⟨H2,y,Q2,rfl,rfl,qF,dH⟩
    refine OT.nil (.any (.op (fuel:=1) 10 kr rfl sl (.alloc Tryz.zeroValue171 rfl rfl (fun Gj=> ?_))))
    refine OT.nil (.any (.op (fuel:=0) 11 kr rfl sl (.ag hT rfl rfl rfl rfl pl rfl rfl rfl (.inl (Nat.le_refl _)) ?_)))
    refine OT.nil (.any (.done kr sl (.cut (Gj,H2,y,Q2) ?_ (aa.cons rfl (aa.cons rfl (aa.cons rfl (aa.cons rfl (aa.cons rfl (aa.cons rfl (aa.nil _))))))) sl)))
    . dsimp only
      exact⟨qF,dH⟩
   .
    refine⟨_,rfl,?_⟩
    refine OT.alloc Tryz.zeroValue171 rfl rfl (fun Gj=> ?_)
    refine OT.nil (.any (.op (fuel:=1) 9 kr rfl sl (.eH 59 rfl (v:= .int .i64 ((d+1:Nat):Int)) (int_eq (by rw[wrap_i64 (by omega) (by omega)];omega)) ?_)))
    refine OT.aR Tryz.call105 rfl rfl rfl rfl (aH.pull pl (ih hkm fS)) (fun _ _ h=>by
     obtain⟨e,H',rfl,he,rfl,⟨h1,h2⟩|h2⟩:=h
     . exact PP.of ⟨e,H',rfl,he,rfl,.inl ⟨gv hrd hlf (by rw[yV];exact h1),h2⟩⟩ sl
     . exact PP.of ⟨e,H',rfl,he,rfl,.inr h2⟩ sl) ?_
    rintro MD Il ⟨H2,y,Q2,rfl,rfl,qF,dH⟩
    refine OT.nil (.any (.op (fuel:=0) 11 kr rfl sl (.ag hT rfl rfl rfl rfl pl rfl rfl rfl (.inl (Nat.le_refl _)) ?_)))
    refine OT.nil (.any (.done kr sl (.cut (Gj,H2,y,Q2) ?_ (aa.cons rfl (aa.cons rfl (aa.cons rfl (aa.cons rfl (aa.cons rfl (aa.cons rfl (aa.nil _))))))) sl)))
    . dsimp only
      exact⟨qF,dH⟩
  .
   rintro⟨Py,H2,y,Q2⟩ hI
   dsimp only at hI
   obtain⟨qF,dH⟩:=hI
   show TT _ _ _ [(0,.pointer (some ⟨b,0,none⟩)),(1,.int .i64 no),(8,.pointer (some ⟨l8,0,none⟩)),(9,.pointer (some ⟨mH,0,none⟩)),(12,.int .i64 (bM n.keys x.key:Nat)),(13,.pointer (some ⟨Py,0,none⟩))] ([(Py,blk [.string y.1,.int .i64 y.2] 171 (0,0))]::[(mH,blk [.bool n.leaf,.slice ac n.cells.length cc,.slice ak n.keys.length ck,.slice ai n.kids.length ci] 159 (0,0))]::H2::KA::KB::KC::[(l8,blk [.string ⟨#[]⟩,.int .i64 0] 171 (0,0))]::[(gB,blk (aj x) 113 (0,0))]::r)
   refine TT.seq (.seq (.region (.U hT 1 rfl (.load rfl rfl (Ld.one hT rfl hz rfl) rfl ?_))))
   refine OT.U hT 1 rfl (.nil (.seq (.cond rfl (fun HH=> ?_) (fun HH=> ?_))))
   .
    have HH:y.2=0:=by simpa using HH
    refine TT.seq (.region (.build hT rfl Tryz.zeroValue171 rfl rfl rfl rfl (.ag hT rfl rfl rfl rfl pl rfl rfl rfl (.inl (Nat.le_refl _)) ?_)))
    refine OT.nil (.seq (.ret (.iF (rs:=[.cell 8 171]) [_] (H2::r) rfl (.cell rfl (Ld.af hT rfl hz rfl) .nil) sl ?_)))
    try dsimp only[one]
    exact⟨H2,kJ,Q2,rfl,rfl,fP hrd hlf (by rw[yV];exact qF) HH,dH⟩
   .
    have HH:y.2≠0:=by simpa using HH
    refine TT.skip (.seq (.cut (ι:=Value×Value×Chunk×Chunk) (fun j=>Own Go.Sx.iq 1 9 (j.1) (aJ n.keys (bM n.keys x.key) y.1) (j.2.2.1)/\Own Go.Sx.cZ 1 3 (j.2.1) (aJ n.kids (bM n.keys x.key+1) y.2) (j.2.2.2)) (fun j=>[(0,.pointer (some ⟨b,0,none⟩)),(1,.int .i64 no),(8,.pointer (some ⟨l8,0,none⟩)),(9,.pointer (some ⟨mH,0,none⟩))]) (fun j=>[(mH,blk [.bool n.leaf,.slice ac n.cells.length cc,(j.1),(j.2.1)] 159 (0,0))]::H2::KA::(j.2.2.1)::(j.2.2.2)::[(l8,blk [.string ⟨#[]⟩,.int .i64 0] 171 (0,0))]::[(gB,blk (aj x) 113 (0,0))]::r) ?_ ?_))
    .
     refine TT.jT [16,18] (([(Py,blk [.string y.1,.int .i64 y.2] 171 (0,0))]::[(mH,blk [.bool n.leaf,.slice ac n.cells.length cc,.slice ak n.keys.length ck,.slice ai n.kids.length ci] 159 (0,0))]::r)) mixed (.takes (fuel:=12) hT [0,2,3,7,9,10,11] kr kr rfl (.take (fuel:=11) hT 1 rfl rfl kr kr kr rfl (.load rfl (Ld.slc hT rfl hz rfl)) rfl ?_))
     refine AT.take (fuel:=10) hT 4 rfl rfl kr kr kr rfl (.load rfl (Ld.one hT rfl hz rfl)) rfl ?_
     refine AT.take (fuel:=9) hT 8 rfl rfl kr kr kr rfl (.load rfl (Ld.slc hT rfl hz rfl)) rfl ?_
     refine AT.take (fuel:=8) hT 12 rfl rfl kr kr kr rfl (.load rfl (Ld.one hT rfl hz rfl)) rfl ?_
     refine AT.all (fuel:=7) [5,13] kr (by decide) sl ?_
     intro i hi
     simp only[List.mem_cons,List.not_mem_nil,or_false]at hi
     rcases hi with rfl|rfl
     .
      refine⟨_,rfl,?_⟩
      refine OT.dF (enc:=Go.Sx.iq) (xs:=[y.1]) (ij:=[.tmp 69]) qH rfl rfl rfl rfl rfl (by simp[Value.cells]) (fun _ _=>rfl) rfl (by decide) rfl (fun QB=> ?_)
      refine OT.nil (.any (.all (fuel:=6) [6,13] kr (by decide) sl ?_))
      intro i hi
      simp only[List.mem_cons,List.not_mem_nil,or_false]at hi
      rcases hi with rfl|rfl
      .
       refine⟨_,rfl,?_⟩
       refine OT.call Tryz.call147 rfl rfl rfl rfl (ax.weaken sl (m5 (y:=y.1) pR ng (by omega))) ?_
       rintro Du AN ⟨H6,rfl,HJ⟩
       obtain⟨a6,c6,rfl⟩:=(HJ.row (hs:=[])).len
       refine OT.nil (.any (.takes (fuel:=5) hT [15] kr kr rfl (.op (fuel:=4) 13 kr rfl sl (.dF (enc:=Go.Sx.cZ) (xs:=[y.2]) (ij:=[.tmp 77]) j3 rfl rfl rfl rfl rfl (by simp[Value.cells]) (fun _ _=>rfl) rfl (by decide) rfl (fun MR=> ?_)))))
       refine OT.nil (.any (.op (fuel:=3) 14 kr rfl sl (.eH 75 rfl (v:= .int .i64 ((bM n.keys x.key+1:Nat):Int)) (int_eq (by rw[wrap_i64 (by omega) (by omega)];omega)) (.call Tryz.call148 rfl rfl rfl rfl (ax.weaken sl (m6 (y:=y.2) nj (by omega) (by omega))) ?_))))
       rintro MS Iw ⟨H7,rfl,vo⟩
       obtain⟨a7,c7,rfl⟩:=(vo.row (hs:=[])).len
       refine OT.nil (.any (.op (fuel:=2) 16 kr rfl sl (.store hT rfl rfl rfl rfl pl rfl (Nat.le_of_ble_eq_true rfl) rfl (.inl (Nat.le_refl _)) rfl ?_)))
       refine OT.nil (.any (.FG (fuel:=1) 17 kr rfl kr (.U hT 1 rfl (.nil (.any (.FG (fuel:=0) 18 kr rfl kr (.store hT rfl rfl rfl rfl pl rfl (Nat.le_of_ble_eq_true rfl) rfl (.inl (Nat.le_refl _)) rfl ?_)))))))
       refine OT.nil (.any (.iQ kr kr (.cut (_,_,H6,H7) ?_ (aa.cons rfl (aa.cons rfl (aa.cons rfl (aa.cons rfl (aa.nil _))))) sl)))
       . dsimp only
         exact⟨HJ,vo⟩
      .
       refine⟨_,rfl,?_⟩
       refine OT.dF (enc:=Go.Sx.cZ) (xs:=[y.2]) (ij:=[.tmp 77]) j3 rfl rfl rfl rfl rfl (by simp[Value.cells]) (fun _ _=>rfl) rfl (by decide) rfl (fun MR=> ?_)
       refine OT.nil (.any (.op (fuel:=5) 6 kr rfl sl (.call Tryz.call147 rfl rfl rfl rfl (ax.weaken sl (m5 (y:=y.1) pR ng (by omega))) ?_)))
       rintro Du AN ⟨H6,rfl,HJ⟩
       obtain⟨a6,c6,rfl⟩:=(HJ.row (hs:=[])).len
       refine OT.nil (.any (.takes (fuel:=4) hT [15] kr kr rfl (.op (fuel:=3) 14 kr rfl sl (.eH 75 rfl (v:= .int .i64 ((bM n.keys x.key+1:Nat):Int)) (int_eq (by rw[wrap_i64 (by omega) (by omega)];omega)) (.call Tryz.call148 rfl rfl rfl rfl (ax.weaken sl (m6 (y:=y.2) nj (by omega) (by omega))) ?_)))))
       rintro MS Iw ⟨H7,rfl,vo⟩
       obtain⟨a7,c7,rfl⟩:=(vo.row (hs:=[])).len
       refine OT.nil (.any (.op (fuel:=2) 16 kr rfl sl (.store hT rfl rfl rfl rfl pl rfl (Nat.le_of_ble_eq_true rfl) rfl (.inl (Nat.le_refl _)) rfl ?_)))
       refine OT.nil (.any (.FG (fuel:=1) 17 kr rfl kr (.U hT 1 rfl (.nil (.any (.FG (fuel:=0) 18 kr rfl kr (.store hT rfl rfl rfl rfl pl rfl (Nat.le_of_ble_eq_true rfl) rfl (.inl (Nat.le_refl _)) rfl ?_)))))))
       refine OT.nil (.any (.iQ kr kr (.cut (_,_,H6,H7) ?_ (aa.cons rfl (aa.cons rfl (aa.cons rfl (aa.cons rfl (aa.nil _))))) sl)))
       . dsimp only
         exact⟨HJ,vo⟩
     .
      refine⟨_,rfl,?_⟩
      refine OT.dF (enc:=Go.Sx.cZ) (xs:=[y.2]) (ij:=[.tmp 77]) j3 rfl rfl rfl rfl rfl (by simp[Value.cells]) (fun _ _=>rfl) rfl (by decide) rfl (fun MR=> ?_)
      refine OT.nil (.any (.op (fuel:=6) 5 kr rfl sl (.dF (enc:=Go.Sx.iq) (xs:=[y.1]) (ij:=[.tmp 69]) qH rfl rfl rfl rfl rfl (by simp[Value.cells]) (fun _ _=>rfl) rfl (by decide) rfl (fun QB=> ?_))))
      refine OT.nil (.any (.op (fuel:=5) 6 kr rfl sl (.call Tryz.call147 rfl rfl rfl rfl (ax.weaken sl (m5 (y:=y.1) pR ng (by omega))) ?_)))
      rintro Du AN ⟨H6,rfl,HJ⟩
      obtain⟨a6,c6,rfl⟩:=(HJ.row (hs:=[])).len
      refine OT.nil (.any (.takes (fuel:=4) hT [15] kr kr rfl (.op (fuel:=3) 14 kr rfl sl (.eH 75 rfl (v:= .int .i64 ((bM n.keys x.key+1:Nat):Int)) (int_eq (by rw[wrap_i64 (by omega) (by omega)];omega)) (.call Tryz.call148 rfl rfl rfl rfl (ax.weaken sl (m6 (y:=y.2) nj (by omega) (by omega))) ?_)))))
      rintro MS Iw ⟨H7,rfl,vo⟩
      obtain⟨a7,c7,rfl⟩:=(vo.row (hs:=[])).len
      refine OT.nil (.any (.op (fuel:=2) 16 kr rfl sl (.store hT rfl rfl rfl rfl pl rfl (Nat.le_of_ble_eq_true rfl) rfl (.inl (Nat.le_refl _)) rfl ?_)))
      refine OT.nil (.any (.FG (fuel:=1) 17 kr rfl kr (.U hT 1 rfl (.nil (.any (.FG (fuel:=0) 18 kr rfl kr (.store hT rfl rfl rfl rfl pl rfl (Nat.le_of_ble_eq_true rfl) rfl (.inl (Nat.le_refl _)) rfl ?_)))))))
      refine OT.nil (.any (.iQ kr kr (.cut (_,_,H6,H7) ?_ (aa.cons rfl (aa.cons rfl (aa.cons rfl (aa.cons rfl (aa.nil _))))) sl)))
      . dsimp only
        exact⟨HJ,vo⟩
    .
     rintro⟨Pz,UZ,K2,K3⟩ hI
     dsimp only at hI
     obtain⟨Gk,MT⟩:=hI
     show TT _ _ _ [(0,.pointer (some ⟨b,0,none⟩)),(1,.int .i64 no),(8,.pointer (some ⟨l8,0,none⟩)),(9,.pointer (some ⟨mH,0,none⟩))] ([(mH,blk [.bool n.leaf,.slice ac n.cells.length cc,Pz,UZ] 159 (0,0))]::H2::KA::K2::K3::[(l8,blk [.string ⟨#[]⟩,.int .i64 0] 171 (0,0))]::[(gB,blk (aj x) 113 (0,0))]::r)
     refine TT.seq (.region (.U hT 2 rfl (.load rfl rfl (Ld.af hT rfl hz rfl) rfl ?_)))
     refine OT.aR Tryz.call146 rfl rfl rfl rfl (aH.pull pl (Ep hP hQ dH (n:={n with keys:=aJ n.keys (bM n.keys x.key) y.1,kids:=aJ n.kids (bM n.keys x.key+1) y.2}) ⟨_,_,_,rfl,pQ.row.there,Gk.row.there.there,MT.row.there.there.there⟩ (hni.E5 hlf _ _ _ _) (Bb rfl (lA Gk) (lA MT)) (jc hno))) (fun _ _ h=>by
      obtain⟨e,H',rfl,he,rfl,⟨h1,h2⟩|h2⟩:=h
      . exact PP.of ⟨e,H',rfl,he,rfl,.inl ⟨(by rw[kV hrd hlf (by rw[yV];exact qF) HH];exact h1),h2⟩⟩ sl
      . exact PP.of ⟨e,H',rfl,he,rfl,.inr h2⟩ sl) ?_
     rintro QC NU ⟨H3,z,Q3,rfl,rfl,U0,mq⟩
     refine OT.ag hT rfl rfl rfl rfl pl rfl rfl rfl (.inl (Nat.le_refl _)) ?_
     refine OT.nil (.seq (.ret (.iF (rs:=[.cell 8 171]) [_] (H3::r) rfl (.cell rfl (Ld.af hT rfl hz rfl) .nil) sl ?_)))
     try dsimp only[one]
     exact⟨H3,z,Q3,rfl,rfl,by rw[kV hrd hlf (by rw[yV];exact qF) HH];exact U0,mq⟩
theorem CM{b:Nat}{P:Value}{I:Chunk->Prop}{E:Int->Chunk->Prop}{Qb:ah}(hP:cM Tryz.prog 5 P I E (aI Qb))(hQ:cC Qb){x:Cell}(hx:aA x=true)(fR:x.val.f<2^64/\x.new.f<2^64):∀(f d:Nat),d+f=32->∀{Qt:ah} {H:Chunk} {r:List Chunk} {no:Int},av no->aM 110 b P I Qb Qt H->aH Tryz.prog 105 [.pointer (some ⟨b,0,none⟩),.int .i64 no,.agg ⟨aj x⟩,.int .i64 ((d:Nat):Int)] (H::r) (fun v' hs'=>∃H' y Q',hs'=H'::r/\v'= .agg ⟨[.string y.1,.int .i64 y.2]⟩/\bI x f Qt no= .ok (y,Q')/\aM 110 b P I Qb Q' H') (dJ (fun H=>∃Q',aM 110 b P I Qb Q' H) (cD 110 b P E) (fun e=>bI x f Qt no= .error e) r):=by
 intro f
 induction f with
 |zero=>
  intro d hd Qt H r no _ hH
  obtain rfl:d=32:=by omega
  exact Ak hP hQ hx fR hH
 |succ f ih=>
  intro d hd Qt H r no hno hH
  exact Al hP hQ hx fR (by omega) (fun h1 h2=>ih (d+1) (by omega) h1 h2) hno hH
end Go.Proofs.YtihpkgmfkbkffaaGreat.Sx
end
