/- Texts joined: what each shows stands ahead of its theorems. -/
import Derived.Test.YtmicohmbmgbnkaaGreatDoorVb22
namespace Go.Proofs.YtmicohmbmgbnkaaGreatDoor
section
open Go Go.RowKit Go.Shelf
open Go.Lib (itoa decDigits)
def DgAt (u n : Nat) (t : List UInt8) : Prop:= ∃r,t=UInt8.ofNat (48 + n % 10) :: r∧decDigits u=decDigits n ++ r
theorem DgAt.start (u : Nat) : DgAt u u [UInt8.ofNat (48 + u % 10)]:=⟨[],rfl,by rw [List.append_nil]⟩
theorem DgAt.step {u n : Nat} {t : List UInt8} (h : DgAt u n t) (hn : 9 < n) : DgAt u (n / 10) (UInt8.ofNat (48 + n / 10 % 10) :: t):=by
 obtain ⟨r,rfl,e⟩:=h
 refine ⟨_,rfl,?_⟩
 rw [e,show decDigits n=decDigits (n / 10) ++ [UInt8.ofNat (48 + n % 10)] by conv=>lhs;rw [decDigits,dif_neg (by omega)],List.append_assoc]
 rfl
theorem DgAt.done {u n : Nat} {t : List UInt8} (h : DgAt u n t) (hn : n≤9) : t=decDigits u:=by
 obtain ⟨r,rfl,e⟩:=h
 rw [e,show decDigits n=[UInt8.ofNat (48 + n)] by rw [decDigits,dif_pos (by omega)],Nat.mod_eq_of_lt (by omega)]
 rfl
theorem bs_cons (c : UInt8) (l : List UInt8) : bs [c] ++ bs l=bs (c :: l):=bs_app [c] l
set_option maxRecDepth 100000 in
set_option maxHeartbeats 4000000 in
theorem digits_nat (u : Nat) (hu : u≤9223372036854775807) (w : World) : Calls Tryz.prog 53 #[.int .i64 u] w fun r w'=>r= .returned (.string (bs (decDigits u)))∧Below w.heap.size w w':=by
 have h1 : ((u : Int) == -9223372036854775808)=false:=beq_eq_false_iff_ne.2 (by omega)
 have h2 : ¬(u : Int) < 0:=by omega
 obtain ⟨k,hk,hk10⟩ : ∃k,u % 10=k∧k < 10:=⟨_,rfl,by omega⟩
 have h0 : (0 : Int)≤(u : Int):=Int.natCast_nonneg _
 have z1 : (u : Int).tmod 10=(k : Int):=by rw [Int.tmod_eq_emod_of_nonneg h0];omega
 have z1' : (u : Int) % 10=(k : Int):=by omega
 obtain ⟨m0,hm0,hm57⟩ : ∃m : Nat,48 + k=m∧m≤57:=⟨_,rfl,by omega⟩
 have z2 : (48 : Int) + (k : Int)=(m0 : Int):=by omega
 have zc:=conv_one w m0
 have hst : Hid (DgAt u u [UInt8.ofNat m0]):=Lib.hid (by rw [← hm0,← hk];exact DgAt.start u)
 have hB0:=Lib.hid (below_new2 w (.cells #[.int .u8 (m0 : Int)] 5))
 have hm1 : (0 : Int)≤(m0 : Int):=Int.natCast_nonneg _
 have hm2 : (m0 : Int)≤57:=by omega
 have hk0 : (0 : Int)≤(k : Int):=Int.natCast_nonneg _
 have hk9 : (k : Int)≤9:=by omega
 clear hk hm0
 go_enter Tryz.func53,Tryz.ntmps53
 go_wp2_with fail
 go_loopw [0,3] (fun nv sv wr=> ∃(n : Nat) (t : List UInt8),nv= .int .i64 n∧sv= .string (bs t)∧n≤u∧t.length + n≤u + 1∧Hid (DgAt u n t)∧Hid (Below w.heap.size w wr)) (fun nv _ _=>(intOf nv).toNat)
 case atStart=>exact ⟨u,_,rfl,rfl,Nat.le_refl _,by simp;omega,hst,hB0⟩
 case round=>
  clear hst hB0 z1 z2 zc z1'
  obtain ⟨n,t,rfl,rfl,hn,hl,hD,hB⟩:=hrel
  by_cases h9 : 9 < n
  · have h9' : (9 : Int) < (n : Int):=by omega
    obtain ⟨m,hm⟩ : ∃m,n / 10=m:=⟨_,rfl⟩
    obtain ⟨k2,hk2,hk210⟩ : ∃k2,m % 10=k2∧k2 < 10:=⟨_,rfl,by omega⟩
    have hD2:=hD.out.step h9
    rw [hm,hk2] at hD2
    have y1 : (n : Int).tdiv 10=(m : Int):=by rw [Int.tdiv_eq_ediv_of_nonneg (by omega)];omega
    have y1' : (n : Int) / 10=(m : Int):=by omega
    have y2 : (m : Int).tmod 10=(k2 : Int):=by rw [Int.tmod_eq_emod_of_nonneg (by omega)];omega
    have y2' : (m : Int) % 10=(k2 : Int):=by omega
    obtain ⟨m5,hm5,hm557⟩ : ∃m : Nat,48 + k2=m∧m≤57:=⟨_,rfl,by omega⟩
    have y3 : (48 : Int) + (k2 : Int)=(m5 : Int):=by omega
    have yc:=conv_one wr m5
    have hB2:=Lib.hid (hB.out.trans ((below_new wr (.cells #[.int .u8 (m5 : Int)] 5)).mono hB.out.size))
    have hm51 : (0 : Int)≤(m5 : Int):=Int.natCast_nonneg _
    have hm52 : (m5 : Int)≤57:=by omega
    rw [hm5] at hD2
    have hm0 : (0 : Int)≤(m : Int):=Int.natCast_nonneg _
    have hmle : (m : Int)≤9223372036854775807:=by omega
    have hk20 : (0 : Int)≤(k2 : Int):=Int.natCast_nonneg _
    have hk29 : (k2 : Int)≤9:=by omega
    have hz : ¬9223372036854775807 < (bs [UInt8.ofNat m5]).size + (bs t).size:=by rw [bs_size,bs_size,List.length_singleton];omega
    have hcat:=bs_cons (UInt8.ofNat m5) t
    have hmn : m < n:=by omega
    have hml : m + 1≤n:=by omega
    replace hD2:=Lib.hid hD2
    replace hcat:=Lib.hid hcat
    clear hm hk2 hm5
    go_wp2_with fail
    go_roundw
    case rel=>exact ⟨m,_,rfl,by rw [← hcat.out],by omega,by rw [List.length_cons];omega,hD2,hB2⟩
    case measure=>simp only [intOf];omega
  · have h9' : ¬(9 : Int) < (n : Int):=by omega
    have hR:=Lib.hid (hD.out.done (by omega))
    go_wp2_with fail
    go_ret
    exact ⟨by rw [← hR.out];rfl,hB.out⟩
theorem itoa_nat (u : Nat) : itoa (u : Int)=decDigits u:=by
 unfold itoa
 rw [if_neg (by omega),Int.toNat_natCast]
theorem itoa_min : itoa (-9223372036854775808)=[45,57,50,50,51,51,55,50,48,51,54,56,53,52,55,55,53,56,48,56]:=by decide +kernel
set_option maxRecDepth 100000 in
set_option maxHeartbeats 4000000 in
theorem digits_any (n : Int) (h : I64 n) (w : World) : Calls Tryz.prog 53 #[.int .i64 n] w fun r w'=>r= .returned (.string (bs (itoa n)))∧Below w.heap.size w w':=by
 unfold I64 at h
 rcases Int.lt_or_le n 0 with h0 | h0
 · by_cases hm : n= -9223372036854775808
   · subst hm
     rw [itoa_min]
     go_enter Tryz.func53,Tryz.ntmps53
     go_wp2_with fail
     go_ret
     exact ⟨rfl,Below.refl _ _⟩
   · obtain ⟨u,hu⟩:=Int.eq_ofNat_of_zero_le (show 0≤ -n by omega)
     have hne : (n == -9223372036854775808)=false:=beq_eq_false_iff_ne.2 hm
     have cD:=Lib.hid (digits_nat u (by omega) w)
     have hi : itoa n=45 :: decDigits u:=by unfold itoa;rw [if_pos h0];congr 2;omega
     rw [hi]
     have hlen : (decDigits u).length≤20:=by
      have h1:=itoa_len20 (n:=(u : Int)) (by unfold I64;omega)
      rwa [itoa_nat] at h1
     have hz : ¬9223372036854775807 < 1 + (bs (decDigits u)).size:=by rw [bs_size];omega
     have hcat:=Lib.hid (bs_cons 45 (decDigits u))
     generalize bs (decDigits u)=y at *
     have hw64 : RowKit.wrap64 (u : Int)=(u : Int):=by unfold RowKit.wrap64;omega
     clear hi hm hlen
     go_enter Tryz.func53,Tryz.ntmps53
     go_wp2_with (go_at_call 53; (with_reducible refine cD.out.mono ?_);rintro r w1 ⟨rfl,hb1⟩;replace hb1:=Lib.hid hb1)
     go_ret
     exact ⟨by rw [← hcat.out];rfl,hb1.out⟩
 · obtain ⟨u,rfl⟩:=Int.eq_ofNat_of_zero_le h0
   rw [itoa_nat]
   exact digits_nat u (by omega) w
theorem rflag_any (b : Bool) (w : World) : Calls Tryz.prog 69 #[.bool b] w fun r w'=>r= .returned (.string (bs (wrPV (.flag b))))∧w' =w:=by
 cases b
 all_goals
  go_enter Tryz.func69,Tryz.ntmps69
  go_wp2_with fail
  go_ret
  exact ⟨rfl,rfl⟩
theorem rcount_any (n : Int) (h : I64 n) (w : World) : Calls Tryz.prog 65 #[.int .i64 n] w fun r w'=>r= .returned (.string (bs (wrPV (.num n))))∧Below w.heap.size w w':=by
 dsimp only [wrPV]
 by_cases h0 : n=0
 · subst h0
   rw [if_pos rfl]
   go_enter Tryz.func65,Tryz.ntmps65
   go_wp2_with fail
   go_ret
   exact ⟨rfl,Below.refl _ _⟩
 · rw [if_neg h0]
   have hb : (n == 0)=false:=beq_eq_false_iff_ne.2 h0
   have cD:=Lib.hid (digits_any n h w)
   clear h0
   go_enter Tryz.func65,Tryz.ntmps65
   go_wp2_with (go_at_call 53;(with_reducible refine cD.out.mono ?_);rintro r w1 ⟨rfl,hb1⟩;replace hb1:=Lib.hid hb1)
   go_ret
   exact ⟨rfl,hb1.out⟩
end
section
open Go Go.RowKit Go.Shelf
open Go.Lib (itoa decDigits)
theorem numD_no {neg : Bool} {d s : List UInt8} (h : d=[]∨20 < s.length∨allD d=false) : numD neg d s=none:=by unfold numD;rw [if_pos h]
theorem numD_yes {neg : Bool} {d s : List UInt8} (h1 : d≠[]) (h2 : ¬20 < s.length) (h3 : allD d=true) : numD neg d s=if itoa (numZ neg d)=s then some (numZ neg d) else none:=by
 unfold numD
 rw [if_neg]
 rintro (h | h | h)
 · exact h1 h
 · exact h2 h
 · rw [h3] at h;cases h
theorem allD_bad {d : List UInt8} {k : Nat} {c : UInt8} (h : d[k]? =some c) (hc : c.toNat < 48∨57 < c.toNat) : allD d=false:=by
 unfold allD
 rw [List.all_eq_false]
 refine ⟨c,List.mem_of_getElem? h,?_⟩
 rcases hc with hc | hc
 · rw [decide_eq_false (by omega)];simp
 · rw [decide_eq_false (show ¬c.toNat≤57 by omega)];simp
theorem allD_snoc {d : List UInt8} {k : Nat} {c : UInt8} (h : d[k]? =some c) (ha : allD (d.take k)=true) (h1 : 48≤c.toNat) (h2 : c.toNat≤57) : allD (d.take (k + 1))=true:=by
 rw [take_succ_of h]
 unfold allD at ha ⊢
 rw [List.all_append,ha]
 simp [h1,h2]
theorem wrapN_snoc {d : List UInt8} {k : Nat} {c : UInt8} (h : d[k]? =some c) : wrapN 0 (d.take (k + 1))=wr64 (wr64 (wrapN 0 (d.take k) * 10) + ((c.toNat : Int) - 48)):=by
 rw [take_succ_of h,wrapN_app]
 rfl
theorem wr64_eq (z : Int) : RowKit.wrap64 z=wr64 z:=by unfold RowKit.wrap64 wr64;first | rfl | omega
def RnR (L : List UInt8) (w : World) (r : Ending) (w' : World) : Prop:= ∃(n : Int) (b : Bool),r= .returned (.tuple #[.int .i64 n,.bool b])∧I64 n∧Ans (numL L) b n∧Below w.heap.size w w'
theorem RnR.no {L : List UInt8} {w w' : World} (h : numL L=none) (hb : Below w.heap.size w w') : RnR L w (.returned (.tuple #[.int .i64 0,.bool false])) w':=⟨0,false,rfl,by unfold I64;omega,h,hb⟩
set_option maxRecDepth 100000 in
set_option maxHeartbeats 4000000 in
theorem rnumber_neg (s : ByteArray) (w : World) (hs : s.size≤4611686018427387904) (hz : 0 < s.size) (hh : (s[0]'hz).toNat=45) :
 Calls Tryz.prog 79 #[.string s] w (RnR s.data.toList w):=by
 have hsl : s.data.toList.length=s.size:=by rw [Array.length_toList];rfl
 have h0L:=ba_get s hz
 obtain ⟨c0,hc0⟩ : ∃c,s[0]'hz=c:=⟨_,rfl⟩
 rw [hc0] at h0L hh
 have f0 : ((c0.toNat : Int) == 45)=true:=by rw [beq_iff_eq];omega
 have hz' : (0 : Int) < (s.size : Int):=by omega
 have hR : numL s.data.toList=numD true (s.data.toList.drop 1) s.data.toList:=by
  rw [← refNum_eq]
  unfold refNum
  rw [List.head?_eq_getElem?,h0L]
  rw [if_pos (by congr 1;exact UInt8.toNat_inj.1 hh)]
 by_cases h1 : s.size=1
 · have hN:=Lib.hid (hR.trans (numD_no (.inl (by rw [List.drop_eq_nil_of_le (by omega)]))))
   have g1 : ((s.size : Int) == 1)=true:=by rw [beq_iff_eq];omega
   clear hR hh h0L
   go_enter Tryz.func79,Tryz.ntmps79
   go_wp2_with fail
   go_ret2
   exact RnR.no hN.out (Below.refl _ _)
 have g1 : ((s.size : Int) == 1)=false:=by rw [beq_eq_false_iff_ne];omega
 by_cases h20 : 20 < s.size
 · have hN:=Lib.hid (hR.trans (numD_no (.inr (.inl (by omega)))))
   have g2 : (20 : Int) < (s.size : Int):=by omega
   clear hR hh h0L
   go_enter Tryz.func79,Tryz.ntmps79
   go_wp2_with fail
   go_ret2
   exact RnR.no hN.out (Below.refl _ _)
 have g2 : ¬(20 : Int) < (s.size : Int):=by omega
 have hRh:=Lib.hid hR
 have hslh:=Lib.hid hsl
 have hI0 : Hid (I64 0∧wrapN 0 ((s.data.toList.drop 1).take (1 - 1))=0∧allD ((s.data.toList.drop 1).take (1 - 1))=true):=Lib.hid ⟨by unfold I64;omega,by rw [Nat.sub_self,List.take_zero];rfl,by rw [Nat.sub_self,List.take_zero];rfl⟩
 clear hR hh h0L hsl
 go_enter Tryz.func79,Tryz.ntmps79
 go_wp2_with fail
 go_loopw [4,6] (fun nv kv wr=> ∃(n : Int) (k : Nat),nv= .int .i64 n∧kv= .int .i64 k∧1≤k∧k≤s.size∧Hid (I64 n∧wrapN 0 ((s.data.toList.drop 1).take (k - 1))=n∧allD ((s.data.toList.drop 1).take (k - 1))=true)∧Hid (wr=w)) (fun _ kv _=>s.size - (intOf kv).toNat)
 case atStart=>exact ⟨0,1,rfl,rfl,Nat.le_refl _,by omega,hI0,Lib.hid rfl⟩
 case round=>
  clear hI0
  obtain ⟨n,k,rfl,rfl,hik,hk,hI,hw⟩:=hrel
  by_cases hlt : k < s.size
  · have hlt' : (k : Int) < (s.size : Int):=by omega
    have h0k : (0 : Int)≤(k : Int):=Int.natCast_nonneg _
    have hcL:=ba_get s hlt
    obtain ⟨c,hc⟩ : ∃c,s[k]'hlt=c:=⟨_,rfl⟩
    rw [hc] at hcL
    have h256 : c.toNat < 256:=c.toNat_lt
    have hdk : (s.data.toList.drop 1)[k - 1]? =some c:=by rw [List.getElem?_drop,show 1 + (k - 1)=k by omega];exact hcL
    by_cases hlo : c.toNat < 48
    · have hN:=Lib.hid (hRh.out.trans (numD_no (.inr (.inr (allD_bad hdk (.inl hlo))))))
      have g3 : (c.toNat : Int) < 48:=by omega
      clear hdk hcL hlo
      go_wp2_with fail
      go_ret2
      exact RnR.no hN.out (by rw [hw.out];exact Below.refl _ _)
    · by_cases hhi : 57 < c.toNat
      · have hN:=Lib.hid (hRh.out.trans (numD_no (.inr (.inr (allD_bad hdk (.inr hhi))))))
        have g3 : ¬(c.toNat : Int) < 48:=by omega
        have g4 : (57 : Int) < (c.toNat : Int):=by omega
        clear hdk hcL hlo hhi
        go_wp2_with fail
        go_ret2
        exact RnR.no hN.out (by rw [hw.out];exact Below.refl _ _)
      · have g3 : ¬(c.toNat : Int) < 48:=by omega
        have g4 : ¬(57 : Int) < (c.toNat : Int):=by omega
        obtain ⟨hi1,hi2,hi3⟩:=hI.out
        have hs1:=wrapN_snoc hdk
        have hs2:=allD_snoc hdk hi3 (by omega) (by omega)
        rw [hi2] at hs1
        obtain ⟨p,hp⟩ : ∃p,wr64 (n * 10)=p:=⟨_,rfl⟩
        obtain ⟨n2,hn2⟩ : ∃n2,wr64 (p + ((c.toNat : Int) - 48))=n2:=⟨_,rfl⟩
        have q1 : RowKit.wrap64 (n * 10)=p:=by rw [wr64_eq,hp]
        have q2 : RowKit.wrap64 (p + ((c.toNat : Int) - 48))=n2:=by rw [wr64_eq,hn2]
        rw [hp,hn2] at hs1
        have hI2:=Lib.hid (show I64 n2∧wrapN 0 ((s.data.toList.drop 1).take (k + 1 - 1))=n2∧allD ((s.data.toList.drop 1).take (k + 1 - 1))=true from by
         rw [show k + 1 - 1=k - 1 + 1 by omega]
         exact ⟨by rw [← hn2];exact wr64_I64 _,hs1,hs2⟩)
        clear hdk hcL hlo hhi hi1 hi2 hi3 hs1 hs2 hp hn2 hI
        go_wp2_with fail
        go_roundw
        case rel=>exact ⟨n2,k + 1,congrArg (Value.int .i64) q2,by go_num,by omega,by omega,hI2,hw⟩
        case measure=>simp [intOf];omega
  · obtain rfl : k=s.size:=by omega
    obtain ⟨hi1,hi2,hi3⟩:=hI.out
    have htk : (s.data.toList.drop 1).take (s.size - 1)=(s.data.toList.drop 1):=List.take_of_length_le (by rw [List.length_drop,hslh.out];exact Nat.le_refl _)
    rw [htk] at hi2 hi3
    have hRR:=hRh.out.trans (numD_yes (fun e=>by have:=congrArg List.length e;rw [List.length_drop,hslh.out,List.length_nil] at this;omega) (by rw [hslh.out];omega) hi3)
    obtain ⟨m,hm⟩ : ∃m,numZ true (s.data.toList.drop 1)=m:=⟨_,rfl⟩
    have hmI : I64 m:=by rw [← hm];exact numZ_I64 _ _
    rw [hm] at hRR
    unfold numZ at hm
    rw [hi2] at hm
    rw [if_pos rfl] at hm
    have g9 : RowKit.wrap64 (-n)=m:=by rw [wr64_eq,hm]
    clear hm
    have cD:=Lib.hid (digits_any m hmI wr)
    have hRf : ∀q : Bool,(q=true↔itoa m=s.data.toList)→∀W',Below wr.heap.size wr W'→RnR s.data.toList w (.returned (.tuple #[.int .i64 m,.bool q])) W':=fun q hq W' hb=>by
     refine ⟨m,q,rfl,hmI,?_,by rw [← hw.out];exact hb⟩
     unfold Ans
     rw [hRR]
     by_cases e : itoa m=s.data.toList
     · rw [if_pos e,if_pos (hq.2 e)]
     · rw [if_neg e,if_neg (fun h=>e (hq.1 h))]
    have hqq : ((bs (itoa m)).toList == s.toList)=decide (itoa m=s.data.toList):=bsq_eq
    obtain ⟨q,hq⟩ : ∃q,decide (itoa m=s.data.toList)=q:=⟨_,rfl⟩
    rw [hq] at hqq
    have hRq:=Lib.hid (hRf q (by rw [← hq,decide_eq_true_iff]))
    generalize bs (itoa m)=y at *
    clear hi1 hi2 hi3 htk hRR hRf hq hmI hI hlt
    cases q
    all_goals
     go_wp2_with (go_at_call 53;(with_reducible refine cD.out.mono ?_);rintro r w5 ⟨rfl,hb5⟩;replace hb5:=Lib.hid hb5)
     go_ret2
     exact hRq.out _ hb5.out
set_option maxRecDepth 100000 in
set_option maxHeartbeats 4000000 in
theorem rnumber_pos (s : ByteArray) (w : World) (hs : s.size≤4611686018427387904) (hz : 0 < s.size) (hh : (s[0]'hz).toNat≠45) :
 Calls Tryz.prog 79 #[.string s] w (RnR s.data.toList w):=by
 have hsl : s.data.toList.length=s.size:=by rw [Array.length_toList];rfl
 have h0L:=ba_get s hz
 obtain ⟨c0,hc0⟩ : ∃c,s[0]'hz=c:=⟨_,rfl⟩
 rw [hc0] at h0L hh
 have f0 : ((c0.toNat : Int) == 45)=false:=by rw [beq_eq_false_iff_ne];omega
 have hz' : (0 : Int) < (s.size : Int):=by omega
 have hR : numL s.data.toList=numD false s.data.toList s.data.toList:=by
  rw [← refNum_eq]
  unfold refNum
  rw [List.head?_eq_getElem?,h0L]
  rw [if_neg (fun e=>hh (by injection e with e;rw [e];rfl))]
 have g1 : ((s.size : Int) == 0)=false:=by rw [beq_eq_false_iff_ne];omega
 by_cases h20 : 20 < s.size
 · have hN:=Lib.hid (hR.trans (numD_no (.inr (.inl (by omega)))))
   have g2 : (20 : Int) < (s.size : Int):=by omega
   clear hR hh h0L
   go_enter Tryz.func79,Tryz.ntmps79
   go_wp2_with fail
   go_ret2
   exact RnR.no hN.out (Below.refl _ _)
 have g2 : ¬(20 : Int) < (s.size : Int):=by omega
 have hRh:=Lib.hid hR
 have hslh:=Lib.hid hsl
 have hI0 : Hid (I64 0∧wrapN 0 (s.data.toList.take (0 - 0))=0∧allD (s.data.toList.take (0 - 0))=true):=Lib.hid ⟨by unfold I64;omega,by rw [Nat.sub_self,List.take_zero];rfl,by rw [Nat.sub_self,List.take_zero];rfl⟩
 clear hR hh h0L hsl
 go_enter Tryz.func79,Tryz.ntmps79
 go_wp2_with fail
 go_loopw [4,6] (fun nv kv wr=> ∃(n : Int) (k : Nat),nv= .int .i64 n∧kv= .int .i64 k∧0≤k∧k≤s.size∧Hid (I64 n∧wrapN 0 (s.data.toList.take (k - 0))=n∧allD (s.data.toList.take (k - 0))=true)∧Hid (wr=w)) (fun _ kv _=>s.size - (intOf kv).toNat)
 case atStart=>exact ⟨0,0,rfl,rfl,Nat.le_refl _,by omega,hI0,Lib.hid rfl⟩
 case round=>
  clear hI0
  obtain ⟨n,k,rfl,rfl,hik,hk,hI,hw⟩:=hrel
  by_cases hlt : k < s.size
  · have hlt' : (k : Int) < (s.size : Int):=by omega
    have h0k : (0 : Int)≤(k : Int):=Int.natCast_nonneg _
    have hcL:=ba_get s hlt
    obtain ⟨c,hc⟩ : ∃c,s[k]'hlt=c:=⟨_,rfl⟩
    rw [hc] at hcL
    have h256 : c.toNat < 256:=c.toNat_lt
    have hdk : s.data.toList[k - 0]? =some c:=by exact hcL
    by_cases hlo : c.toNat < 48
    · have hN:=Lib.hid (hRh.out.trans (numD_no (.inr (.inr (allD_bad hdk (.inl hlo))))))
      have g3 : (c.toNat : Int) < 48:=by omega
      clear hdk hcL hlo
      go_wp2_with fail
      go_ret2
      exact RnR.no hN.out (by rw [hw.out];exact Below.refl _ _)
    · by_cases hhi : 57 < c.toNat
      · have hN:=Lib.hid (hRh.out.trans (numD_no (.inr (.inr (allD_bad hdk (.inr hhi))))))
        have g3 : ¬(c.toNat : Int) < 48:=by omega
        have g4 : (57 : Int) < (c.toNat : Int):=by omega
        clear hdk hcL hlo hhi
        go_wp2_with fail
        go_ret2
        exact RnR.no hN.out (by rw [hw.out];exact Below.refl _ _)
      · have g3 : ¬(c.toNat : Int) < 48:=by omega
        have g4 : ¬(57 : Int) < (c.toNat : Int):=by omega
        obtain ⟨hi1,hi2,hi3⟩:=hI.out
        have hs1:=wrapN_snoc hdk
        have hs2:=allD_snoc hdk hi3 (by omega) (by omega)
        rw [hi2] at hs1
        obtain ⟨p,hp⟩ : ∃p,wr64 (n * 10)=p:=⟨_,rfl⟩
        obtain ⟨n2,hn2⟩ : ∃n2,wr64 (p + ((c.toNat : Int) - 48))=n2:=⟨_,rfl⟩
        have q1 : RowKit.wrap64 (n * 10)=p:=by rw [wr64_eq,hp]
        have q2 : RowKit.wrap64 (p + ((c.toNat : Int) - 48))=n2:=by rw [wr64_eq,hn2]
        rw [hp,hn2] at hs1
        have hI2:=Lib.hid (show I64 n2∧wrapN 0 (s.data.toList.take (k + 1 - 0))=n2∧allD (s.data.toList.take (k + 1 - 0))=true from by
         rw [show k + 1 - 0=k - 0 + 1 by omega]
         exact ⟨by rw [← hn2];exact wr64_I64 _,hs1,hs2⟩)
        clear hdk hcL hlo hhi hi1 hi2 hi3 hs1 hs2 hp hn2 hI
        go_wp2_with fail
        go_roundw
        case rel=>exact ⟨n2,k + 1,congrArg (Value.int .i64) q2,by go_num,by omega,by omega,hI2,hw⟩
        case measure=>simp [intOf];omega
  · obtain rfl : k=s.size:=by omega
    obtain ⟨hi1,hi2,hi3⟩:=hI.out
    have htk : s.data.toList.take (s.size - 0)=s.data.toList:=List.take_of_length_le (by rw [hslh.out];omega)
    rw [htk] at hi2 hi3
    have hRR:=hRh.out.trans (numD_yes (fun e=>by have:=congrArg List.length e;rw [hslh.out,List.length_nil] at this;omega) (by rw [hslh.out];omega) hi3)
    obtain ⟨m,hm⟩ : ∃m,numZ false s.data.toList=m:=⟨_,rfl⟩
    have hmI : I64 m:=by rw [← hm];exact numZ_I64 _ _
    rw [hm] at hRR
    unfold numZ at hm
    rw [hi2] at hm
    rw [if_neg (by decide)] at hm
    clear hi2
    subst n
    have hi2:=trivial
    have cD:=Lib.hid (digits_any m hmI wr)
    have hRf : ∀q : Bool,(q=true↔itoa m=s.data.toList)→∀W',Below wr.heap.size wr W'→RnR s.data.toList w (.returned (.tuple #[.int .i64 m,.bool q])) W':=fun q hq W' hb=>by
     refine ⟨m,q,rfl,hmI,?_,by rw [← hw.out];exact hb⟩
     unfold Ans
     rw [hRR]
     by_cases e : itoa m=s.data.toList
     · rw [if_pos e,if_pos (hq.2 e)]
     · rw [if_neg e,if_neg (fun h=>e (hq.1 h))]
    have hqq : ((bs (itoa m)).toList == s.toList)=decide (itoa m=s.data.toList):=bsq_eq
    obtain ⟨q,hq⟩ : ∃q,decide (itoa m=s.data.toList)=q:=⟨_,rfl⟩
    rw [hq] at hqq
    have hRq:=Lib.hid (hRf q (by rw [← hq,decide_eq_true_iff]))
    generalize bs (itoa m)=y at *
    clear hi1 hi2 hi3 htk hRR hRf hq hmI hI hlt
    cases q
    all_goals
     go_wp2_with (go_at_call 53;(with_reducible refine cD.out.mono ?_);rintro r w5 ⟨rfl,hb5⟩;replace hb5:=Lib.hid hb5)
     go_ret2
     exact hRq.out _ hb5.out
theorem rnumber_any (s : ByteArray) (w : World) (hs : s.size≤4611686018427387904) : Calls Tryz.prog 79 #[.string s] w (RnR s.data.toList w):=by
 by_cases hz : 0 < s.size
 · by_cases h : (s[0]'hz).toNat=45
   · exact rnumber_neg s w hs hz h
   · exact rnumber_pos s w hs hz h
 · have h0 : s.size=0:=by omega
   have hsl : s.data.toList.length=s.size:=by rw [Array.length_toList];rfl
   have hnil : s.data.toList=[]:=List.length_eq_zero_iff.1 (by omega)
   have hN:=Lib.hid (show numL s.data.toList=none by rw [hnil,← refNum_eq];rfl)
   have g1 : ((s.size : Int) == 0)=true:=by rw [beq_iff_eq];omega
   have g2 : ¬(0 : Int) < (s.size : Int):=by omega
   clear hnil hsl
   go_enter Tryz.func79,Tryz.ntmps79
   go_wp2_with fail
   go_ret2
   exact RnR.no hN.out (Below.refl _ _)
end
section
open Go Go.RowKit Go.Shelf
open Go.Lib (itoa decDigits)
structure SpA (c : UInt8) (L : List UInt8) (D : List (List UInt8)) (f k : Nat) : Prop where
 le : f≤k
 eq : splitL c L=D ++ splitL c (L.drop f)
 no : c ∉ (L.drop f).take (k - f)
 len : D.length≤k
theorem SpA.start (c : UInt8) (L : List UInt8) : SpA c L [] 0 0:=⟨Nat.le_refl _,rfl,by simp,Nat.le_refl _⟩
theorem SpA.skip {c : UInt8} {L : List UInt8} {D : List (List UInt8)} {f k : Nat} {x : UInt8} (h : SpA c L D f k) (hx : L[k]? =some x) (hc : x≠c) : SpA c L D f (k + 1):=by
 have h1:=h.le
 refine ⟨by omega,h.eq,fun hm=> ?_,by have:=h.len;omega⟩
 rw [show k + 1 - f=(k - f) + 1 by omega,take_succ_of (x:=x) (by rw [List.getElem?_drop,show f + (k - f)=k by omega];exact hx)] at hm
 rcases List.mem_append.1 hm with hm | hm
 · exact h.no hm
 · exact hc (List.mem_singleton.1 hm).symm
theorem SpA.cut {c : UInt8} {L : List UInt8} {D : List (List UInt8)} {f k : Nat} (h : SpA c L D f k) (hx : L[k]? =some c) : SpA c L (D ++ [(L.drop f).take (k - f)]) (k + 1) (k + 1):=by
 have h1:=h.le
 have hd : L.drop f=(L.drop f).take (k - f) ++ c :: L.drop (k + 1):=by
  conv=>lhs;rw [← List.take_append_drop (k - f) (L.drop f)]
  rw [List.drop_drop,show f + (k - f)=k by omega,drop_at hx]
 refine ⟨Nat.le_refl _,?_,by simp,by simp;exact h.len⟩
 rw [h.eq]
 conv=>lhs;rw [hd,splitL_app _ h.no]
 simp
theorem SpA.last {c : UInt8} {L : List UInt8} {D : List (List UInt8)} {f k : Nat} (h : SpA c L D f k) (hk : L.length=k) : D ++ [(L.drop f).take (k - f)]=splitL c L:=by
 have ht : (L.drop f).take (k - f)=L.drop f:=List.take_of_length_le (by rw [List.length_drop];omega)
 have hn:=h.no
 rw [ht] at hn ⊢
 rw [h.eq,splitL_none hn]
set_option maxRecDepth 100000 in
set_option maxHeartbeats 4000000 in
theorem rsplit_any (c : UInt8) (s : ByteArray) (w : World) (hs : s.size≤1099511627776) :
 Calls Tryz.prog 48 #[.string s,.int .u8 c.toNat] w fun r w'=> ∃v,r= .returned v∧OwnS w' w.heap.size v ((splitL c s.data.toList).map bs)∧Below w.heap.size w w':=by
 obtain ⟨i0,hi0,hz0,hz1,hz2⟩:=info_parts str_info
 have hsl:=Lib.hid (show s.data.toList.length=s.size by rw [Array.length_toList];rfl)
 have hst:=Lib.hid (fun (_ : 0≤s.size)=>SpA.start c s.data.toList)
 have hO0 : Hid (OwnS w w.heap.size (.slice none 0 0) (txt id [])):=Lib.hid (OwnR.nil_ w w.heap.size 1 9)
 go_enter Tryz.func48,Tryz.ntmps48
 go_wp2_with fail
 go_loopw [5,6,7] (fun v fv iv wr=> ∃(k f : Nat) (D : List (List UInt8)),iv= .int .i64 k∧fv= .int .i64 f∧k≤s.size + 1∧D.length≤k∧Hid (OwnS wr w.heap.size v (txt id D))∧Hid (Below w.heap.size w wr)∧Hid (k≤s.size→SpA c s.data.toList D f k)∧Hid (k=s.size + 1→D=splitL c s.data.toList)) (fun _ _ iv _=>s.size + 1 - (intOf iv).toNat)
 case atStart=>exact ⟨0,0,[],rfl,rfl,by omega,Nat.le_refl _,hO0,Lib.hid (Below.refl _ _),hst,Lib.hid (fun h=>by omega)⟩
 case round=>
  clear hst hO0
  obtain ⟨k,f,D,rfl,rfl,hk,hDk,hO,hB,hP,hE⟩:=hrel
  by_cases hle : k≤s.size
  · have hp:=hP.out hle
    have hfk:=hp.le
    have hpc : s.extract f k=bs ((s.data.toList.drop f).take (k - f)):=by rw [← bs_back (s.extract f k),Lib.extract_data]
    have i1 : (0 : Int)≤(k : Int):=by omega
    have i3 : (0 : Int)≤(f : Int):=by omega
    have i4 : (f : Int)≤(k : Int):=by omega
    have i5 : (k : Int)≤(s.size : Int):=by omega
    have hb1:=below_new wr (.cells #[.string (s.extract f k)] 9)
    have hO1:=Lib.hid (hO.out.keep hb1)
    have hB1:=Lib.hid (hB.out.trans (hb1.mono hB.out.size))
    have htl : (txt id D).length≤s.size + 1:=by rw [txt_len];omega
    have htx : txt id D ++ [s.extract f k]=txt id (D ++ [(s.data.toList.drop f).take (k - f)]):=by rw [hpc];simp [txt]
    have hlD : (D ++ [(s.data.toList.drop f).take (k - f)]).length≤k + 1:=by rw [List.length_append,List.length_singleton];omega
    replace htx:=Lib.hid htx
    clear hb1 hpc
    generalize hTD : txt id D=TD at *
    replace hTD:=Lib.hid hTD
    by_cases hend : k=s.size
    · have hq : ((k : Int) == (s.size : Int))=true:=by simp [hend]
      have hlast:=Lib.hid (hp.last (by rw [hsl.out,hend]))
      have hK:=Lib.hid hend
      clear hend hp
      go_wp2_with (at_builtin
                   refine wpList_append_one rfl _ _ 27 rfl 9 i0 (.string ByteArray.empty) 1 16 Tryz.underlying27 hi0 hz0 hz1 hz2 rfl (by decide) w hB1.out _ _ rfl hO1.out wr.heap.size 1 (sv (s.extract f k)) rfl ?_ rfl ?_ ?_ ?_ ?_
                   · exact rangeAt_list (heap_new wr (.cells #[.string (s.extract f k)] 9))
                   · intro u hu;simp [sv] at hu;subst hu;rfl
                   · simp only [List.length_map];unfold maxLen;omega
                   · simp only [List.length_map];omega
                   intro v' w2 hO2 hB2 _
                   have hO2:=Lib.hid (show OwnS w2 w.heap.size v' (TD ++ [s.extract f k]) by unfold OwnS;simpa using hO2)
                   have hB2:=Lib.hid hB2)
      go_roundw
      case rel=>exact ⟨k + 1,k + 1,_,by go_num,by go_num,by omega,hlD,by rw [← htx.out];exact hO2,hB2,Lib.hid (fun h=>by have:=hK.out;omega),Lib.hid (fun _=>hlast.out)⟩
      case measure=>simp [intOf];omega
    · have hq : ((k : Int) == (s.size : Int))=false:=beq_eq_false_iff_ne.2 (by omega)
      have hlt : k < s.size:=by omega
      have i6 : (k : Int) < (s.size : Int):=by omega
      have hcL:=ba_get s hlt
      cases hc : ((s[k].toNat : Int) == (c.toNat : Int)) with
      | true=>
        have hbk : s[k]=c:=UInt8.toNat.inj (by have h1:=beq_iff_eq.1 hc;omega)
        rw [hbk] at hcL
        have hcut:=Lib.hid (hp.cut hcL)
        clear hp hbk hend hcL
        go_wp2_with (at_builtin
                     refine wpList_append_one rfl _ _ 27 rfl 9 i0 (.string ByteArray.empty) 1 16 Tryz.underlying27 hi0 hz0 hz1 hz2 rfl (by decide) w hB1.out _ _ rfl hO1.out wr.heap.size 1 (sv (s.extract f k)) rfl ?_ rfl ?_ ?_ ?_ ?_
                     · exact rangeAt_list (heap_new wr (.cells #[.string (s.extract f k)] 9))
                     · intro u hu;simp [sv] at hu;subst hu;rfl
                     · simp only [List.length_map];unfold maxLen;omega
                     · simp only [List.length_map];omega
                     intro v' w2 hO2 hB2 _
                     have hO2:=Lib.hid (show OwnS w2 w.heap.size v' (TD ++ [s.extract f k]) by unfold OwnS;simpa using hO2)
                     have hB2:=Lib.hid hB2)
        go_roundw
        case rel=>exact ⟨k + 1,k + 1,_,by go_num,by go_num,by omega,hlD,by rw [← htx.out];exact hO2,hB2,Lib.hid (fun _=>hcut.out),Lib.hid (fun h=>by omega)⟩
        case measure=>simp [intOf];omega
      | false=>
        have hbk : s[k]≠c:=by
         intro e
         rw [e] at hc
         simp at hc
        have hskip:=Lib.hid (hp.skip hcL hbk)
        clear hp hbk hend hcL hO1 hB1 htx
        go_wp2_with fail
        go_roundw
        case rel=>exact ⟨k + 1,f,D,by go_num,rfl,by omega,by omega,by rw [hTD.out];exact hO,hB,Lib.hid (fun _=>hskip.out),Lib.hid (fun h=>by omega)⟩
        case measure=>simp [intOf];omega
  · have hE2:=hE.out (by omega)
    subst hE2
    have hO':=Lib.hid (show OwnS wr w.heap.size _ ((splitL c s.data.toList).map bs) from by have:=hO.out;simpa [txt] using this)
    go_wp2_with fail
    go_ret
    exact ⟨_,rfl,hO'.out,hB.out⟩
theorem joinL_take {c : UInt8} {ps : List (List UInt8)} {k : Nat} {p : List UInt8} (h : ps[k]? =some p) : joinL c (ps.take (k + 1))=if k=0 then p else joinL c (ps.take k) ++ c :: p:=by
 rw [take_succ_of h]
 by_cases hk : k=0
 · rw [if_pos hk,hk,List.take_zero];rfl
 · rw [if_neg hk,joinL_snoc p (fun e=>by have:=congrArg List.length e;rw [List.length_take,List.length_nil] at this;have:=(List.getElem?_eq_some_iff.1 h).1;omega)]
theorem joinL_pre {c : UInt8} {ps : List (List UInt8)} {k : Nat} : (joinL c (ps.take k)).length≤(joinL c ps).length:=by
 rcases Nat.lt_or_ge k ps.length with h | h
 · conv=>rhs;rw [← List.take_append_drop k ps]
   match hq : ps.take k,hd : ps.drop k with
   | [],_=>exact Nat.zero_le _
   | p :: r,[]=>rw [List.append_nil];exact Nat.le_refl _
   | p :: r,q :: s=>
     clear hq hd h
     induction r generalizing p with
     | nil=>rw [List.singleton_append,joinL_cons (p:=p) (r:=q :: s) (by simp),List.length_append];exact Nat.le_add_right _ _
     | cons x r ih=>
       rw [List.cons_append,joinL_cons (p:=p) (r:=x :: r) (by simp),joinL_cons (p:=p) (r:=x :: r ++ q :: s) (by simp)]
       have:=ih x
       simp only [List.length_append,List.length_cons] at this ⊢
       omega
 · rw [List.take_of_length_le h];exact Nat.le_refl _
set_option maxRecDepth 100000 in
set_option maxHeartbeats 4000000 in
theorem rjoin_any (c : UInt8) (ps : List (List UInt8)) (A : Option Addr) (n cc : Nat) (w : World) (H : Strs w A n (ps.map bs)) (hn : n≤4611686018427387904) (hl : (joinL c ps).length≤4611686018427387904) :
 Calls Tryz.prog 68 #[.slice A n cc,.string ⟨#[c]⟩] w fun r w'=>r= .returned (.string (bs (joinL c ps)))∧w' =w:=by
 have hpl:=Lib.hid (show ps.length=n by have:=H.len;simpa using this)
 have Hh:=Lib.hid H
 have hst : Hid (∃y : ByteArray,(⟨#[]⟩ : ByteArray)=y∧y=bs (joinL c (ps.take 0))):=Lib.hid ⟨_,rfl,by rw [List.take_zero];rfl⟩
 clear H
 go_enter Tryz.func68,Tryz.ntmps68
 go_wp2_with fail
 go_loopw [5,6] (fun ov kv wr=> ∃(k : Nat) (y : ByteArray),k≤n∧kv= .int .i64 k∧ov= .string y∧Hid (y=bs (joinL c (ps.take k)))∧Hid (wr=w)) (fun _ kv _=>n - (intOf kv).toNat)
 case atStart=>exact ⟨0,_,Nat.zero_le _,rfl,rfl,Lib.hid (by rw [List.take_zero];rfl),Lib.hid rfl⟩
 case round=>
  clear hst
  obtain ⟨k,y,hk,rfl,rfl,hy,hw⟩:=hrel
  by_cases hlt : k < n
  · have hlt' : (k : Int) < (n : Int):=by omega
    obtain ⟨p,hp⟩ : ∃p,ps[k]? =some p:=⟨ps[k]'(by rw [hpl.out];exact hlt),List.getElem?_eq_getElem _⟩
    obtain ⟨b1,o1,x1,rfl,hbl,hx1,hc0⟩:=Hh.out.at_ hlt
    rw [List.getElem?_map,hp] at hx1
    obtain rfl : bs p=x1:=Option.some.inj hx1
    rw [← hw.out] at hc0
    have hjt:=joinL_take (c:=c) hp
    have hle2:=joinL_pre (c:=c) (ps:=ps) (k:=k + 1)
    have hys : y.size=(joinL c (ps.take k)).length:=by rw [hy.out,bs_size]
    have hps : (bs p).size=p.length:=bs_size p
    by_cases hk0 : k=0
    · rw [if_pos hk0] at hjt
      subst hk0
      have hy0 : y=⟨#[]⟩:=by rw [hy.out,List.take_zero];rfl
      have hnx:=Lib.hid (show (⟨#[]⟩ : ByteArray) ++ bs p=bs (joinL c (ps.take (0 + 1))) by rw [hjt,show (⟨#[]⟩ : ByteArray)=bs [] from rfl,bs_app];rfl)
      subst hy0
      rw [Nat.add_zero] at hc0
      have hz : ¬9223372036854775807 < (bs p).size:=by rw [hjt] at hle2;omega
      clear hjt hle2 hys hps hp hx1
      go_wp2_with fail
      go_roundw
      case rel=>exact ⟨1,_,by omega,by go_num,rfl,(by have:=hnx.out;exact Lib.hid (by first | exact this | simpa using this)),hw⟩
      case measure=>simp [intOf];omega
    · rw [if_neg hk0] at hjt
      have hk1 : (0 : Int) < (k : Int):=by omega
      rw [hjt] at hle2
      simp only [List.length_append,List.length_cons] at hle2
      have hz1 : ¬9223372036854775807 < y.size + 1:=by omega
      have hz2 : ¬9223372036854775807 < y.size + 1 + (bs p).size:=by omega
      have hnx:=Lib.hid (show y ++ ⟨#[c]⟩ ++ bs p=bs (joinL c (ps.take (k + 1))) by rw [hjt,hy.out,show (⟨#[c]⟩ : ByteArray)=bs [c] from rfl,bs_app,bs_app,List.append_assoc];rfl)
      clear hjt hle2 hys hps hp hx1 hk0
      generalize bs p=yp at *
      go_wp2_with fail
      go_roundw
      case rel=>exact ⟨k + 1,_,by omega,by go_num,rfl,hnx,hw⟩
      case measure=>simp [intOf];omega
  · obtain rfl : k=n:=by omega
    rw [List.take_of_length_le (by rw [hpl.out];exact Nat.le_refl _)] at hy
    go_wp2_with fail
    go_ret
    exact ⟨by rw [← hy.out];rfl,hw.out⟩
end
section
open Go Go.RowKit Go.Shelf
open Go.Lib (itoa decDigits)
set_option maxRecDepth 100000 in
set_option maxHeartbeats 8000000 in
theorem rints_any (c : UInt8) (l : List Int) (A : Option Addr) (n cc : Nat) (w : World) (H : Rws w 1 A n (l.map iv)) (hi : ∀x∈l,I64 x) (hn : n≤1099511627777) :
 Calls Tryz.prog 67 #[.slice A n cc,.string ⟨#[c]⟩] w fun r w'=>r= .returned (.string (bs (joinL c (l.map itoa))))∧Below w.heap.size w w':=by
 obtain ⟨i0,hi0,hz0,hz1,hz2⟩:=info_parts str_info
 have hln : l.length=n:=by have:=H.1;simpa using this
 have hjl : (joinL c (l.map itoa)).length≤21 * n:=by
  rw [← hln]
  clear H hn hln hz0 hz1 hz2 hi0
  induction l with
  | nil=>exact Nat.zero_le _
  | cons x r ih=>
    have h1:=itoa_len20 (hi x List.mem_cons_self)
    have h2:=ih fun y hy=>hi y (List.mem_cons_of_mem _ hy)
    rw [List.map_cons]
    cases r with
    | nil=>show (itoa x).length≤_;simp;omega
    | cons y s=>
      rw [joinL_cons (by simp)]
      simp only [List.length_append,List.length_cons] at h2 ⊢
      omega
 have hO0 : Hid (OwnS w w.heap.size (.slice none 0 0) (txt itoa (l.take 0))):=Lib.hid (OwnR.nil_ w w.heap.size 1 9)
 have hB0:=Lib.hid (Below.refl w.heap.size w)
 have cW:=Lib.hid (fun x (hx : x∈l) W'=>digits_any x (hi x hx) W')
 have hH:=Lib.hid H
 have cJ:=Lib.hid (fun A cc W' (hS : Strs W' A n (txt itoa l))=>rjoin_any c (l.map itoa) A n cc W' hS (by omega) (by omega))
 have hlnh:=Lib.hid hln
 clear H hjl
 go_enter Tryz.func67,Tryz.ntmps67
 go_wp2_with fail
 go_loopw [5,6] (fun v kv wr=> ∃k : Nat,k≤n∧kv= .int .i64 k∧Hid (OwnS wr w.heap.size v (txt itoa (l.take k)))∧Hid (Below w.heap.size w wr)) (fun _ kv _=>n - (intOf kv).toNat)
 case atStart=>exact ⟨0,Nat.zero_le _,rfl,hO0,hB0⟩
 case round=>
  clear hO0 hB0
  obtain ⟨k,hk,rfl,hO,hB⟩:=hrel
  by_cases hlt : k < n
  · have hlt' : (k : Int) < (n : Int):=by omega
    obtain ⟨b2,off2,z,rfl,hb2,hz,_,hr2⟩:=Rws.row hH.out hlt
    obtain ⟨x,hx,rfl⟩:=map_at hz
    have hxm:=List.mem_of_getElem? hx
    have htk:=Lib.hid (txt_snoc (f:=itoa) hx)
    have hlen : (txt itoa (l.take k)).length≤1099511627777:=by rw [txt_len,List.length_take];omega
    have hcell:=rangeAt_keep hr2 hB.out hb2 0 _ rfl
    rw [Nat.mul_one,Nat.add_zero] at hcell
    have cX:=Lib.hid (cW.out x hxm wr)
    clear hx hxm hr2 hz
    generalize hyt : bs (itoa x)=yt at *
    clear hyt
    generalize txt itoa (l.take k)=D at *
    go_wp2_with (first
     | (go_at_call 53;(with_reducible refine cX.out.mono ?_);rintro r w2 ⟨rfl,hb2'⟩
        have hbn:=below_new w2 (.cells #[.string yt] 9)
        have hO1:=Lib.hid ((hO.out.keep hb2').keep hbn)
        have hB2:=hB.out.trans (hb2'.mono hB.out.size)
        have hB3:=Lib.hid (hB2.trans (hbn.mono hB2.size))
        clear hb2' hbn hB2)
     | (at_builtin
        refine wpList_append_one rfl _ _ 27 rfl 9 i0 (.string ByteArray.empty) 1 16 Tryz.underlying27 hi0 hz0 hz1 hz2 rfl (by decide) w hB3.out _ _ rfl hO1.out w2.heap.size 1 (sv yt) rfl ?_ rfl ?_ ?_ ?_ ?_
        · exact rangeAt_list (heap_new w2 (.cells #[.string yt] 9))
        · intro u hu;simp [sv] at hu;subst hu;rfl
        · simp only [List.length_map];unfold maxLen;omega
        · simp only [List.length_map];omega
        intro v' w3 hO2 hB4 _
        have hO2:=Lib.hid (show OwnS w3 w.heap.size v' (D ++ [yt]) by unfold OwnS;simpa using hO2)
        have hB4:=Lib.hid hB4))
    go_roundw
    case rel=>exact ⟨k + 1,by omega,by go_num,by rw [htk.out];exact hO2,hB4⟩
    case measure=>simp [intOf];omega
  · obtain rfl : k=n:=by omega
    rw [List.take_of_length_le (by rw [hlnh.out];exact Nat.le_refl _)] at hO
    obtain ⟨A9,c9,e9,hS⟩:=hO.out.strs
    rw [txt_len,hlnh.out] at e9 hS
    subst e9
    have cK:=Lib.hid (cJ.out A9 c9 wr hS)
    clear hO hS
    go_wp2_with (go_at_call 68;(with_reducible refine cK.out.mono ?_);rintro r w2 ⟨rfl,rfl⟩)
    go_ret
    exact ⟨rfl,hB.out⟩
set_option maxRecDepth 100000 in
set_option maxHeartbeats 8000000 in
theorem rtexts_any (l : List (List UInt8)) (A : Option Addr) (n cc : Nat) (w : World) (H : Rws w 1 A n (l.map fun s=>sv (bs s))) (hl : (joinL 44 (l.map wrName)).length≤1099511627776) :
 Calls Tryz.prog 70 #[.slice A n cc] w fun r w'=>r= .returned (.string (bs (joinL 44 (l.map wrName))))∧Below w.heap.size w w':=by
 obtain ⟨i0,hi0,hz0,hz1,hz2⟩:=info_parts str_info
 have hln : l.length=n:=by have:=H.1;simpa using this
 have hnb : n≤1099511627777:=by have:=joinL_count (c:=44) (l.map wrName);rw [List.length_map] at this;omega
 have hO0 : Hid (OwnS w w.heap.size (.slice none 0 0) (txt wrName (l.take 0))):=Lib.hid (OwnR.nil_ w w.heap.size 1 9)
 have hB0:=Lib.hid (Below.refl w.heap.size w)
 have cW:=Lib.hid (fun x (hx : x∈l) W'=>rescape_any (bs x) W' (by rw [bs_size];have:=joinL_len_le (c:=44) (List.mem_map_of_mem (f:=wrName) hx);have:=wrName_len x;omega))
 have hH:=Lib.hid H
 have cJ:=Lib.hid (fun A cc W' (hS : Strs W' A n (txt wrName l))=>rjoin_any 44 (l.map wrName) A n cc W' hS (by omega) (by omega))
 have hlnh:=Lib.hid hln
 clear H hl
 go_enter Tryz.func70,Tryz.ntmps70
 go_wp2_with fail
 go_loopw [3,4] (fun v kv wr=> ∃k : Nat,k≤n∧kv= .int .i64 k∧Hid (OwnS wr w.heap.size v (txt wrName (l.take k)))∧Hid (Below w.heap.size w wr)) (fun _ kv _=>n - (intOf kv).toNat)
 case atStart=>exact ⟨0,Nat.zero_le _,rfl,hO0,hB0⟩
 case round=>
  clear hO0 hB0
  obtain ⟨k,hk,rfl,hO,hB⟩:=hrel
  by_cases hlt : k < n
  · have hlt' : (k : Int) < (n : Int):=by omega
    obtain ⟨b2,off2,z,rfl,hb2,hz,_,hr2⟩:=Rws.row hH.out hlt
    obtain ⟨x,hx,rfl⟩:=map_at hz
    have hxm:=List.mem_of_getElem? hx
    have htk:=txt_snoc (f:=wrName) hx
    have hlen : (txt wrName (l.take k)).length≤1099511627777:=by rw [txt_len,List.length_take];omega
    have hcell:=rangeAt_keep hr2 hB.out hb2 0 _ rfl
    rw [Nat.mul_one,Nat.add_zero] at hcell
    have cX:=cW.out x hxm wr
    rw [bs_list] at cX
    have cX:=Lib.hid cX
    clear hx hxm hr2 hz
    generalize txt wrName (l.take k)=D at *
    by_cases h0 : x=[]
    · subst h0
      have he : (bs (escL [])).toList.isEmpty=true:=by rw [ByteArray.toList_eq];rfl
      have hyt : bs (wrName [])=⟨#[59]⟩:=rfl
      rw [hyt] at htk
      generalize bs (escL [])=ye at *
      generalize bs []=yx at *
      have hbn:=below_new wr (.cells #[.string ⟨#[59]⟩] 9)
      have hO1:=Lib.hid (hO.out.keep hbn)
      have hB3:=Lib.hid (hB.out.trans (hbn.mono hB.out.size))
      replace htk:=Lib.hid htk
      clear hbn hyt
      go_wp2_with (first
       | (go_at_call 13;(with_reducible refine cX.out.mono ?_);rintro r w2 ⟨rfl,rfl⟩)
       | (at_builtin
          refine wpList_append_one rfl _ _ 27 rfl 9 i0 (.string ByteArray.empty) 1 16 Tryz.underlying27 hi0 hz0 hz1 hz2 rfl (by decide) w hB3.out _ _ rfl hO1.out w2.heap.size 1 (sv ⟨#[59]⟩) rfl ?_ rfl ?_ ?_ ?_ ?_
          · exact rangeAt_list (heap_new w2 (.cells #[.string ⟨#[59]⟩] 9))
          · intro u hu;simp [sv] at hu;subst hu;rfl
          · simp only [List.length_map];unfold maxLen;omega
          · simp only [List.length_map];omega
          intro v' w3 hO2 hB4 _
          have hO2:=Lib.hid (show OwnS w3 w.heap.size v' (D ++ [⟨#[59]⟩]) by unfold OwnS;simpa using hO2)
          have hB4:=Lib.hid hB4))
      go_roundw
      case rel=>exact ⟨k + 1,by omega,by go_num,by rw [htk.out];exact hO2,hB4⟩
      case measure=>simp [intOf];omega
    · have he : (bs (escL x)).toList.isEmpty=false:=by rw [bs_nil,decide_eq_false (fun e=>h0 (escL_nil.1 e))]
      have hwn : wrName x=escL x:=by unfold wrName;rw [if_neg h0]
      rw [hwn] at htk
      clear h0 hwn
      generalize bs (escL x)=yt at *
      generalize bs x=yx at *
      have hbn:=below_new wr (.cells #[.string yt] 9)
      have hO1:=Lib.hid (hO.out.keep hbn)
      have hB3:=Lib.hid (hB.out.trans (hbn.mono hB.out.size))
      replace htk:=Lib.hid htk
      clear hbn
      go_wp2_with (first
       | (go_at_call 13;(with_reducible refine cX.out.mono ?_);rintro r w2 ⟨rfl,rfl⟩)
       | (at_builtin
          refine wpList_append_one rfl _ _ 27 rfl 9 i0 (.string ByteArray.empty) 1 16 Tryz.underlying27 hi0 hz0 hz1 hz2 rfl (by decide) w hB3.out _ _ rfl hO1.out w2.heap.size 1 (sv yt) rfl ?_ rfl ?_ ?_ ?_ ?_
          · exact rangeAt_list (heap_new w2 (.cells #[.string yt] 9))
          · intro u hu;simp [sv] at hu;subst hu;rfl
          · simp only [List.length_map];unfold maxLen;omega
          · simp only [List.length_map];omega
          intro v' w3 hO2 hB4 _
          have hO2:=Lib.hid (show OwnS w3 w.heap.size v' (D ++ [yt]) by unfold OwnS;simpa using hO2)
          have hB4:=Lib.hid hB4))
      go_roundw
      case rel=>exact ⟨k + 1,by omega,by go_num,by rw [htk.out];exact hO2,hB4⟩
      case measure=>simp [intOf];omega
  · obtain rfl : k=n:=by omega
    rw [List.take_of_length_le (by rw [hlnh.out];exact Nat.le_refl _)] at hO
    obtain ⟨A9,c9,e9,hS⟩:=hO.out.strs
    rw [txt_len,hlnh.out] at e9 hS
    subst e9
    have cK:=Lib.hid (cJ.out A9 c9 wr hS)
    clear hO hS
    go_wp2_with (go_at_call 68;(with_reducible refine cK.out.mono ?_);rintro r w2 ⟨rfl,rfl⟩)
    go_ret
    exact ⟨rfl,hB.out⟩
end
section
open Go Go.RowKit Go.Shelf
open Go.Lib (itoa decDigits)
set_option maxRecDepth 100000 in
set_option maxHeartbeats 2000000 in
theorem more_19 (fs : List Value) (n : Int) (hI : I64 n) (w : World) (hc : fs[14]? =some (.int .i64 n)) : Calls Tryz.prog 72 #[.agg fs.toArray,.int .i64 19] w fun r w'=>r= .returned (.string (bs (wrPV (.num n))))∧Below w.heap.size w w':=by
 have hB1:=Lib.hid (below_new w (.cells fs.toArray 41))
 have hcell : (w.alloc (.cells fs.toArray 41)).cell? ⟨w.heap.size,14,none⟩=some (.int .i64 n):=(cell_of_row _ _ 14 _ _ _ (heap_new w _)).trans (by simpa using hc)
 have cC:=Lib.hid (rcount_any n hI (w.alloc (.cells fs.toArray 41)))
 clear hc
 go_enter Tryz.func72,Tryz.ntmps72
 go_wp2_with (first
  | (refine wpList_box_row 41 _ rfl rfl fs.toArray rfl ?_)
  | (go_at_call 65;(with_reducible refine cC.out.mono ?_);rintro r w1 ⟨rfl,hb1⟩;replace hb1:=Lib.hid hb1))
 go_ret
 exact ⟨rfl,hB1.out.trans (hb1.out.mono hB1.out.size)⟩
set_option maxRecDepth 100000 in
set_option maxHeartbeats 2000000 in
theorem more_20 (fs : List Value) (n : Int) (hI : I64 n) (w : World) (hc : fs[15]? =some (.int .i64 n)) : Calls Tryz.prog 72 #[.agg fs.toArray,.int .i64 20] w fun r w'=>r= .returned (.string (bs (wrPV (.num n))))∧Below w.heap.size w w':=by
 have hB1:=Lib.hid (below_new w (.cells fs.toArray 41))
 have hcell : (w.alloc (.cells fs.toArray 41)).cell? ⟨w.heap.size,15,none⟩=some (.int .i64 n):=(cell_of_row _ _ 15 _ _ _ (heap_new w _)).trans (by simpa using hc)
 have cC:=Lib.hid (rcount_any n hI (w.alloc (.cells fs.toArray 41)))
 clear hc
 go_enter Tryz.func72,Tryz.ntmps72
 go_wp2_with (first
  | (refine wpList_box_row 41 _ rfl rfl fs.toArray rfl ?_)
  | (go_at_call 65;(with_reducible refine cC.out.mono ?_);rintro r w1 ⟨rfl,hb1⟩;replace hb1:=Lib.hid hb1))
 go_ret
 exact ⟨rfl,hB1.out.trans (hb1.out.mono hB1.out.size)⟩
set_option maxRecDepth 100000 in
set_option maxHeartbeats 2000000 in
theorem more_21 (fs : List Value) (s : List UInt8) (hs : s.length≤1099511627776) (w : World) (hc : fs[16]? =some (.string (bs s))) : Calls Tryz.prog 72 #[.agg fs.toArray,.int .i64 21] w fun r w'=>r= .returned (.string (bs (wrPV (.text s))))∧Below w.heap.size w w':=by
 have hB1:=Lib.hid (below_new w (.cells fs.toArray 41))
 have hcell : (w.alloc (.cells fs.toArray 41)).cell? ⟨w.heap.size,16,none⟩=some (.string (bs s)):=(cell_of_row _ _ 16 _ _ _ (heap_new w _)).trans (by simpa using hc)
 have cC:=Lib.hid ((rescape_any (bs s) (w.alloc (.cells fs.toArray 41)) (by rw [bs_size];exact hs)).mono (fun r w' h=>(⟨h.1,by rw [h.2];exact Below.refl _ _⟩ : r=Ending.returned (.string (bs (wrPV (.text s))))∧Below (w.alloc (.cells fs.toArray 41)).heap.size (w.alloc (.cells fs.toArray 41)) w')))
 clear hc
 go_enter Tryz.func72,Tryz.ntmps72
 go_wp2_with (first
  | (refine wpList_box_row 41 _ rfl rfl fs.toArray rfl ?_)
  | (go_at_call 13;(with_reducible refine cC.out.mono ?_);rintro r w1 ⟨rfl,hb1⟩;replace hb1:=Lib.hid hb1))
 go_ret
 exact ⟨rfl,hB1.out.trans (hb1.out.mono hB1.out.size)⟩
set_option maxRecDepth 100000 in
set_option maxHeartbeats 2000000 in
theorem more_22 (fs : List Value) (w : World) (l : List Int) (hI : ∀x∈l,I64 x) (hn : l.length≤1099511627777) (A : Option Addr) (cc : Nat) (H : Rws w 1 A l.length (l.map iv)) (hc : fs[17]? =some (.slice A l.length cc)) : Calls Tryz.prog 72 #[.agg fs.toArray,.int .i64 22] w fun r w'=>r= .returned (.string (bs (wrPV (.nums l))))∧Below w.heap.size w w':=by
 have hB1:=Lib.hid (below_new w (.cells fs.toArray 41))
 have hcell : (w.alloc (.cells fs.toArray 41)).cell? ⟨w.heap.size,17,none⟩=some (.slice A l.length cc):=(cell_of_row _ _ 17 _ _ _ (heap_new w _)).trans (by simpa using hc)
 have cC:=Lib.hid (rints_any 44 l A l.length cc (w.alloc (.cells fs.toArray 41)) (H.keep hB1.out) hI hn)
 clear hc
 go_enter Tryz.func72,Tryz.ntmps72
 go_wp2_with (first
  | (refine wpList_box_row 41 _ rfl rfl fs.toArray rfl ?_)
  | (go_at_call 67;(with_reducible refine cC.out.mono ?_);rintro r w1 ⟨rfl,hb1⟩;replace hb1:=Lib.hid hb1))
 go_ret
 exact ⟨rfl,hB1.out.trans (hb1.out.mono hB1.out.size)⟩
set_option maxRecDepth 100000 in
set_option maxHeartbeats 2000000 in
theorem more_23 (fs : List Value) (b : Bool) (w : World) (hc : fs[18]? =some (.bool b)) : Calls Tryz.prog 72 #[.agg fs.toArray,.int .i64 23] w fun r w'=>r= .returned (.string (bs (wrPV (.flag b))))∧Below w.heap.size w w':=by
 have hB1:=Lib.hid (below_new w (.cells fs.toArray 41))
 have hcell : (w.alloc (.cells fs.toArray 41)).cell? ⟨w.heap.size,18,none⟩=some (.bool b):=(cell_of_row _ _ 18 _ _ _ (heap_new w _)).trans (by simpa using hc)
 have cC:=Lib.hid ((rflag_any b (w.alloc (.cells fs.toArray 41))).mono (fun r w' h=>(⟨h.1,by rw [h.2];exact Below.refl _ _⟩ : r=Ending.returned (.string (bs (wrPV (.flag b))))∧Below (w.alloc (.cells fs.toArray 41)).heap.size (w.alloc (.cells fs.toArray 41)) w')))
 clear hc
 go_enter Tryz.func72,Tryz.ntmps72
 go_wp2_with (first
  | (refine wpList_box_row 41 _ rfl rfl fs.toArray rfl ?_)
  | (go_at_call 69;(with_reducible refine cC.out.mono ?_);rintro r w1 ⟨rfl,hb1⟩;replace hb1:=Lib.hid hb1))
 go_ret
 exact ⟨rfl,hB1.out.trans (hb1.out.mono hB1.out.size)⟩
set_option maxRecDepth 100000 in
set_option maxHeartbeats 2000000 in
theorem more_24 (fs : List Value) (b : Bool) (w : World) (hc : fs[19]? =some (.bool b)) : Calls Tryz.prog 72 #[.agg fs.toArray,.int .i64 24] w fun r w'=>r= .returned (.string (bs (wrPV (.flag b))))∧Below w.heap.size w w':=by
 have hB1:=Lib.hid (below_new w (.cells fs.toArray 41))
 have hcell : (w.alloc (.cells fs.toArray 41)).cell? ⟨w.heap.size,19,none⟩=some (.bool b):=(cell_of_row _ _ 19 _ _ _ (heap_new w _)).trans (by simpa using hc)
 have cC:=Lib.hid ((rflag_any b (w.alloc (.cells fs.toArray 41))).mono (fun r w' h=>(⟨h.1,by rw [h.2];exact Below.refl _ _⟩ : r=Ending.returned (.string (bs (wrPV (.flag b))))∧Below (w.alloc (.cells fs.toArray 41)).heap.size (w.alloc (.cells fs.toArray 41)) w')))
 clear hc
 go_enter Tryz.func72,Tryz.ntmps72
 go_wp2_with (first
  | (refine wpList_box_row 41 _ rfl rfl fs.toArray rfl ?_)
  | (go_at_call 69;(with_reducible refine cC.out.mono ?_);rintro r w1 ⟨rfl,hb1⟩;replace hb1:=Lib.hid hb1))
 go_ret
 exact ⟨rfl,hB1.out.trans (hb1.out.mono hB1.out.size)⟩
set_option maxRecDepth 100000 in
set_option maxHeartbeats 4000000 in
theorem more_25 (fs : List Value) (x y z : Nat) (hx : x < 4294967296) (hy : y < 4294967296) (hz : z < 4294967296) (w : World) (h0 : fs[20]? =some (.int .u32 x)) (h1 : fs[21]? =some (.int .u32 y)) (h2 : fs[22]? =some (.int .u32 z)) :
 Calls Tryz.prog 72 #[.agg fs.toArray,.int .i64 25] w fun r w'=>r= .returned (.string (bs (wrPV (.wish x y z))))∧Below w.heap.size w w':=by
 have hB1:=Lib.hid (below_new w (.cells fs.toArray 41))
 have c0 : (w.alloc (.cells fs.toArray 41)).cell? ⟨w.heap.size,20,none⟩=some (.int .u32 x):=(cell_of_row _ _ 20 _ _ _ (heap_new w _)).trans (by simpa using h0)
 have c1 : (w.alloc (.cells fs.toArray 41)).cell? ⟨w.heap.size,21,none⟩=some (.int .u32 y):=(cell_of_row _ _ 21 _ _ _ (heap_new w _)).trans (by simpa using h1)
 have c2 : (w.alloc (.cells fs.toArray 41)).cell? ⟨w.heap.size,22,none⟩=some (.int .u32 z):=(cell_of_row _ _ 22 _ _ _ (heap_new w _)).trans (by simpa using h2)
 have e1 : IntKind.i64.wrap (x : Int)=(x : Int):=IntWalk.i64_in _ (by omega)
 have e2 : IntKind.i64.wrap (y : Int)=(y : Int):=IntWalk.i64_in _ (by omega)
 have e3 : IntKind.i64.wrap (z : Int)=(z : Int):=IntWalk.i64_in _ (by omega)
 dsimp only [wrPV]
 have hbn:=below_new (w.alloc (.cells fs.toArray 41)) (.cells #[.int .i64 (x : Int),.int .i64 (y : Int),.int .i64 (z : Int)] 3)
 have hg:=heap_new (w.alloc (.cells fs.toArray 41)) (.cells #[.int .i64 (x : Int),.int .i64 (y : Int),.int .i64 (z : Int)] 3)
 have hR:=Rws.block (zs:=([(x : Int),(y : Int),(z : Int)] : List Int).map iv) (k:=1) (by intro q hq;obtain ⟨e,_,rfl⟩:=List.mem_map.1 hq;rfl) hg (Array.getElem?_eq_some_iff.1 hg).1
 have cI:=rints_any 58 [(x : Int),(y : Int),(z : Int)] _ 3 3 _ hR (by intro q hq;simp only [List.mem_cons,List.not_mem_nil,or_false] at hq;rcases hq with rfl | rfl | rfl <;> (unfold I64;omega)) (by decide)
 simp only [World.size_alloc] at cI
 rw [show List.map itoa [(x : Int),(y : Int),(z : Int)]=[itoa (x : Int),itoa (y : Int),itoa (z : Int)] from rfl] at cI
 have hB2:=Lib.hid (hB1.out.trans (hbn.mono hB1.out.size))
 have hsz:=Lib.hid hbn.size
 clear h0 h1 h2 hbn hg hR
 by_cases hall : x=0∧y=0∧z=0
 · rw [if_pos hall]
   obtain ⟨rfl,rfl,rfl⟩:=hall
   clear cI
   go_enter Tryz.func72,Tryz.ntmps72
   go_wp2_with (refine wpList_box_row 41 _ rfl rfl fs.toArray rfl ?_)
   go_ret
   exact ⟨rfl,hB1.out⟩
 · rw [if_neg hall]
   generalize joinL 58 [itoa (x : Int),itoa (y : Int),itoa (z : Int)]=jt at *
   replace cI:=Lib.hid cI
   have k : (((x : Int) == 0)=true∧((y : Int) == 0)=true∧((z : Int) == 0)=false)∨(((x : Int) == 0)=true∧((y : Int) == 0)=false)∨((x : Int) == 0)=false:=by
    simp only [beq_iff_eq,beq_eq_false_iff_ne]
    omega
   clear hall
   rcases k with ⟨k1,k2,k3⟩ | ⟨k1,k2⟩ | k1
   all_goals
    go_enter Tryz.func72,Tryz.ntmps72
    go_wp2_with (first
     | (refine wpList_box_row 41 _ rfl rfl fs.toArray rfl ?_)
     | (go_at_call 67;(with_reducible refine cI.out.mono ?_);rintro r w1 ⟨rfl,hb1⟩;replace hb1:=Lib.hid hb1))
    go_ret
    exact ⟨rfl,hB2.out.trans (hb1.out.mono (by have:=hB2.out.size;simpa using this))⟩
end
section
open Go Go.RowKit Go.Shelf
open Go.Lib (itoa decDigits)
def cfZ : Array Value:=((stZ 0).drop 2).take 23 |>.toArray
theorem cf_zero : (Tryz.prog.info? 41).bind (·.zero)=some (.agg cfZ):=by kernel_rfl
def pfZ8 : Array Value:=#[.slice none 0 0,.slice none 0 0,.slice none 0 0,.slice none 0 0,.slice none 0 0,.slice none 0 0,.slice none 0 0,.slice none 0 0]
theorem pf_zero8 : (Tryz.prog.info? 35).bind (·.zero)=some (.agg pfZ8):=by kernel_rfl
theorem strsl_info : (Tryz.prog.info? 27).map (fun i=>(i.zero,i.size,i.bytes))=some (some (.slice none 0 0),1,24):=by kernel_rfl
theorem lists_fill (A0 : Option Addr) (n0 c0 : Nat) (A1 : Option Addr) (n1 c1 : Nat) (A2 : Option Addr) (n2 c2 : Nat) (A3 : Option Addr) (n3 c3 : Nat) (A4 : Option Addr) (n4 c4 : Nat) (A5 : Option Addr) (n5 c5 : Nat) (A6 : Option Addr) (n6 c6 : Nat) (A7 : Option Addr) (n7 c7 : Nat) (A8 : Option Addr) (n8 c8 : Nat) : Instr.fill (fun j=>some (j * 1,1)) ((Array.range (9 * 1)).map ((Value.slice none 0 0).cells[· % (Value.slice none 0 0).cells.size]!)) [(0,.slice A0 n0 c0),(1,.slice A1 n1 c1),(2,.slice A2 n2 c2),(3,.slice A3 n3 c3),(4,.slice A4 n4 c4),(5,.slice A5 n5 c5),(6,.slice A6 n6 c6),(7,.slice A7 n7 c7),(8,.slice A8 n8 c8)]=some #[.slice A0 n0 c0,.slice A1 n1 c1,.slice A2 n2 c2,.slice A3 n3 c3,.slice A4 n4 c4,.slice A5 n5 c5,.slice A6 n6 c6,.slice A7 n7 c7,.slice A8 n8 c8]:=by kernel_rfl
set_option maxRecDepth 100000 in
set_option maxHeartbeats 4000000 in
theorem rlists_any (fs : List Value) {A0 : Option Addr} {n0 c0 : Nat} {A1 : Option Addr} {n1 c1 : Nat} {A2 : Option Addr} {n2 c2 : Nat} {A3 : Option Addr} {n3 c3 : Nat} {A4 : Option Addr} {n4 c4 : Nat} {A5 : Option Addr} {n5 c5 : Nat} {A6 : Option Addr} {n6 c6 : Nat} {A7 : Option Addr} {n7 c7 : Nat} {A8 : Option Addr} {n8 c8 : Nat} (w : World) (h0 : fs[3]? =some (.slice A0 n0 c0)) (h1 : fs[4]? =some (.slice A1 n1 c1)) (h2 : fs[5]? =some (.slice A2 n2 c2)) (h3 : fs[6]? =some (.slice A3 n3 c3)) (h4 : fs[7]? =some (.slice A4 n4 c4)) (h5 : fs[8]? =some (.slice A5 n5 c5)) (h6 : fs[9]? =some (.slice A6 n6 c6)) (h7 : fs[10]? =some (.slice A7 n7 c7)) (h8 : fs[11]? =some (.slice A8 n8 c8)) (hone : fs.toArray.all (·.oneCell')=true) :
 Calls Tryz.prog 71 #[.agg fs.toArray] w fun r w'=> ∃A,r= .returned (.slice A 9 9)∧Rws w' 1 A 9 ([.slice A0 n0 c0,.slice A1 n1 c1,.slice A2 n2 c2,.slice A3 n3 c3,.slice A4 n4 c4,.slice A5 n5 c5,.slice A6 n6 c6,.slice A7 n7 c7,.slice A8 n8 c8].map fun v=>[v])∧Below w.heap.size w w':=by
 have hB1:=below_new w (.cells fs.toArray 41)
 have hg1:=heap_new w (.cells fs.toArray 41)
 have hr : (w.alloc (.cells fs.toArray 41)).rangeAt w.heap.size 3 [.slice A0 n0 c0,.slice A1 n1 c1,.slice A2 n2 c2,.slice A3 n3 c3,.slice A4 n4 c4,.slice A5 n5 c5,.slice A6 n6 c6,.slice A7 n7 c7]:=fun j v hj=>by
  refine (cell_of_row _ _ _ _ _ _ hg1).trans ?_
  rw [List.getElem?_toArray]
  match j,hj with
  | 0,hj=>injection hj with hj;rw [← hj];exact h0
  | 1,hj=>injection hj with hj;rw [← hj];exact h1
  | 2,hj=>injection hj with hj;rw [← hj];exact h2
  | 3,hj=>injection hj with hj;rw [← hj];exact h3
  | 4,hj=>injection hj with hj;rw [← hj];exact h4
  | 5,hj=>injection hj with hj;rw [← hj];exact h5
  | 6,hj=>injection hj with hj;rw [← hj];exact h6
  | 7,hj=>injection hj with hj;rw [← hj];exact h7
 have hgz:=heap_new (w.alloc (.cells fs.toArray 41)) (.cells pfZ8 35)
 have hB2:=below_new (w.alloc (.cells fs.toArray 41)) (.cells #[.slice A0 n0 c0,.slice A1 n1 c1,.slice A2 n2 c2,.slice A3 n3 c3,.slice A4 n4 c4,.slice A5 n5 c5,.slice A6 n6 c6,.slice A7 n7 c7] 35)
 have hg2:=heap_new (w.alloc (.cells fs.toArray 41)) (.cells #[.slice A0 n0 c0,.slice A1 n1 c1,.slice A2 n2 c2,.slice A3 n3 c3,.slice A4 n4 c4,.slice A5 n5 c5,.slice A6 n6 c6,.slice A7 n7 c7] 35)
 have hlt1:=(Array.getElem?_eq_some_iff.1 hg1).1
 simp only [World.size_alloc] at hg2
 have k8 : ((w.alloc (.cells fs.toArray 41)).alloc (.cells #[.slice A0 n0 c0,.slice A1 n1 c1,.slice A2 n2 c2,.slice A3 n3 c3,.slice A4 n4 c4,.slice A5 n5 c5,.slice A6 n6 c6,.slice A7 n7 c7] 35)).cell? ⟨w.heap.size,11,none⟩=some (.slice A8 n8 c8):=(hB2.cell (p:=⟨w.heap.size,11,none⟩) hlt1).trans ((cell_of_row _ _ _ _ _ _ hg1).trans (by simpa using h8))
 have k0 : ((w.alloc (.cells fs.toArray 41)).alloc (.cells #[.slice A0 n0 c0,.slice A1 n1 c1,.slice A2 n2 c2,.slice A3 n3 c3,.slice A4 n4 c4,.slice A5 n5 c5,.slice A6 n6 c6,.slice A7 n7 c7] 35)).cell? ⟨w.heap.size + 1,0,none⟩=some (.slice A0 n0 c0):=cell_of_row _ _ 0 _ _ _ hg2
 have k1 : ((w.alloc (.cells fs.toArray 41)).alloc (.cells #[.slice A0 n0 c0,.slice A1 n1 c1,.slice A2 n2 c2,.slice A3 n3 c3,.slice A4 n4 c4,.slice A5 n5 c5,.slice A6 n6 c6,.slice A7 n7 c7] 35)).cell? ⟨w.heap.size + 1,1,none⟩=some (.slice A1 n1 c1):=cell_of_row _ _ 1 _ _ _ hg2
 have k2 : ((w.alloc (.cells fs.toArray 41)).alloc (.cells #[.slice A0 n0 c0,.slice A1 n1 c1,.slice A2 n2 c2,.slice A3 n3 c3,.slice A4 n4 c4,.slice A5 n5 c5,.slice A6 n6 c6,.slice A7 n7 c7] 35)).cell? ⟨w.heap.size + 1,2,none⟩=some (.slice A2 n2 c2):=cell_of_row _ _ 2 _ _ _ hg2
 have k3 : ((w.alloc (.cells fs.toArray 41)).alloc (.cells #[.slice A0 n0 c0,.slice A1 n1 c1,.slice A2 n2 c2,.slice A3 n3 c3,.slice A4 n4 c4,.slice A5 n5 c5,.slice A6 n6 c6,.slice A7 n7 c7] 35)).cell? ⟨w.heap.size + 1,3,none⟩=some (.slice A3 n3 c3):=cell_of_row _ _ 3 _ _ _ hg2
 have k4 : ((w.alloc (.cells fs.toArray 41)).alloc (.cells #[.slice A0 n0 c0,.slice A1 n1 c1,.slice A2 n2 c2,.slice A3 n3 c3,.slice A4 n4 c4,.slice A5 n5 c5,.slice A6 n6 c6,.slice A7 n7 c7] 35)).cell? ⟨w.heap.size + 1,4,none⟩=some (.slice A4 n4 c4):=cell_of_row _ _ 4 _ _ _ hg2
 have k5 : ((w.alloc (.cells fs.toArray 41)).alloc (.cells #[.slice A0 n0 c0,.slice A1 n1 c1,.slice A2 n2 c2,.slice A3 n3 c3,.slice A4 n4 c4,.slice A5 n5 c5,.slice A6 n6 c6,.slice A7 n7 c7] 35)).cell? ⟨w.heap.size + 1,5,none⟩=some (.slice A5 n5 c5):=cell_of_row _ _ 5 _ _ _ hg2
 have k6 : ((w.alloc (.cells fs.toArray 41)).alloc (.cells #[.slice A0 n0 c0,.slice A1 n1 c1,.slice A2 n2 c2,.slice A3 n3 c3,.slice A4 n4 c4,.slice A5 n5 c5,.slice A6 n6 c6,.slice A7 n7 c7] 35)).cell? ⟨w.heap.size + 1,6,none⟩=some (.slice A6 n6 c6):=cell_of_row _ _ 6 _ _ _ hg2
 have k7 : ((w.alloc (.cells fs.toArray 41)).alloc (.cells #[.slice A0 n0 c0,.slice A1 n1 c1,.slice A2 n2 c2,.slice A3 n3 c3,.slice A4 n4 c4,.slice A5 n5 c5,.slice A6 n6 c6,.slice A7 n7 c7] 35)).cell? ⟨w.heap.size + 1,7,none⟩=some (.slice A7 n7 c7):=cell_of_row _ _ 7 _ _ _ hg2
 simp only [World.size_alloc] at hgz
 have hpone : (#[.slice A0 n0 c0,.slice A1 n1 c1,.slice A2 n2 c2,.slice A3 n3 c3,.slice A4 n4 c4,.slice A5 n5 c5,.slice A6 n6 c6,.slice A7 n7 c7] : Array Value).all (·.oneCell')=true:=by simp [Value.oneCell']
 have hB3:=hB1.trans (hB2.mono hB1.size)
 obtain ⟨i0,hi0,hz0,hz1,hz2⟩:=info_parts strsl_info
 replace hB3:=Lib.hid hB3
 clear hB1 hB2 hg1 hg2 hlt1 h0 h1 h2 h3 h4 h5 h6 h7 h8
 go_enter Tryz.func71,Tryz.ntmps71
 go_upto_region 2 with (first
  | (refine wpList_box_row 41 _ rfl rfl fs.toArray rfl ?_)
  | (refine wpList_load_at 35 _ rfl rfl w.heap.size 3 rfl [.slice A0 n0 c0,.slice A1 n1 c1,.slice A2 n2 c2,.slice A3 n3 c3,.slice A4 n4 c4,.slice A5 n5 c5,.slice A6 n6 c6,.slice A7 n7 c7] _ hr Tryz.underlying35 rfl (by kernel_rfl) ?_)
  | (refine wpList_alloc_row 35 rfl rfl pfZ8 pf_zero8 ?_;try simp only [World.size_alloc])
  | (refine wpList_store_at 35 _ _ rfl rfl (w.heap.size + 1) #[.slice A0 n0 c0,.slice A1 n1 c1,.slice A2 n2 c2,.slice A3 n3 c3,.slice A4 n4 c4,.slice A5 n5 c5,.slice A6 n6 c6,.slice A7 n7 c7] rfl rfl 35 pfZ8 hgz (by kernel_rfl) rfl hpone ?_
     rw [show w.heap.size + 1=(w.alloc (.cells fs.toArray 41)).heap.size by simp,setRow_new]
     try simp only [World.size_alloc]))
 generalize (w.alloc (.cells fs.toArray 41)).alloc (.cells #[.slice A0 n0 c0,.slice A1 n1 c1,.slice A2 n2 c2,.slice A3 n3 c3,.slice A4 n4 c4,.slice A5 n5 c5,.slice A6 n6 c6,.slice A7 n7 c7] 35)=w2 at *
 go_wp2_with (refine wpList_buildSlice_as 134 27 9 _ rfl rfl i0 (.slice none 0 0) #[.slice A0 n0 c0,.slice A1 n1 c1,.slice A2 n2 c2,.slice A3 n3 c3,.slice A4 n4 c4,.slice A5 n5 c5,.slice A6 n6 c6,.slice A7 n7 c7,.slice A8 n8 c8] Tryz.underlying134 hi0 hz0 (by rw [hz1];decide) (by rw [hz1];decide) ?_ ?_
              · rw [hz1];exact lists_fill _ _ _ _ _ _ _ _ _ _ _ _ _ _ _ _ _ _ _ _ _ _ _ _ _ _ _)
 go_ret
 have hg:=heap_new w2 (.cells #[.slice A0 n0 c0,.slice A1 n1 c1,.slice A2 n2 c2,.slice A3 n3 c3,.slice A4 n4 c4,.slice A5 n5 c5,.slice A6 n6 c6,.slice A7 n7 c7,.slice A8 n8 c8] 27)
 exact ⟨_,rfl,Rws.block (zs:=([.slice A0 n0 c0,.slice A1 n1 c1,.slice A2 n2 c2,.slice A3 n3 c3,.slice A4 n4 c4,.slice A5 n5 c5,.slice A6 n6 c6,.slice A7 n7 c7,.slice A8 n8 c8] : List Value).map fun v=>[v]) (k:=1) (by intro q hq;obtain ⟨e,_,rfl⟩:=List.mem_map.1 hq;rfl) hg (Array.getElem?_eq_some_iff.1 hg).1,hB3.out.trans ((below_new w2 _).mono hB3.out.size)⟩
end
end Go.Proofs.YtmicohmbmgbnkaaGreatDoor
