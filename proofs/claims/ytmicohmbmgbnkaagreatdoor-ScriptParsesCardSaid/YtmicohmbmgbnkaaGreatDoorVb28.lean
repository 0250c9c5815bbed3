/- The reference's Line: under way. -/
import Derived.Test.YtmicohmbmgbnkaaGreatDoorVb27
import Derived.Test.YtmicohmbmgbnkaaGreatDoorVb5
namespace Go.Proofs.YtmicohmbmgbnkaaGreatDoor
open Go Go.RowKit Go.Shelf
theorem results_tmp_cell {P : Program} {fn : Func} {p u : Tmp} {ty : TypeId} (h : fn.results=#[.tmp u,.cell p ty]) (tmps : Array Value) (w : World) (g : Nat) (t : TypeId) (cs : Array Value) (fr : Nat × Nat) (d : TypeDesc) (v : Value)
 (hp : tmps.getD p undef= .pointer (some ⟨g,0,none⟩)) (hg : w.heap[g]? =some (.cells cs t fr))
 (hu : P.underlying ty=some d) (hd : (match d with | .struct _ | .array _ _=>true | _=>false)=true) (hi : (P.info? ty).map (·.size)=some cs.size) (hv : tmps.getD u undef=v) :
 (results fn tmps).run P w= .ok (.tuple #[v,.agg cs]) w:=by
 have hp' : tmps[p]?.getD undef= .pointer (some ⟨g,0,none⟩):=by simpa using hp
 have hv' : tmps[u]?.getD undef=v:=by simpa using hv
 simp [results,h,hp',hv',asAddr,run_loadVar_row w g t ty cs fr d hg hu hd hi]
def erZ : Array Value:=#[.int .i64 0,.string ByteArray.empty]
theorem er_zero : (Tryz.prog.info? 53).bind (·.zero)=some (.agg erZ):=by kernel_rfl
theorem keys_at {W : World} {b j : Nat} {kg : List UInt8 × Tag} (h : Strs W (some ⟨b,0,none⟩) 26 ((keyT.map (fun x : List UInt8 × Tag=>x.1)).map bs)) (hk : keyT[j]? =some kg) (hj : j < 26) : (b < W.heap.size∧W.cell? ⟨b,j,none⟩=some (.string (bs kg.1)))∧(bs kg.1).size≤20:=by
 obtain ⟨b',off,s,e,hlt,hs,hcell⟩:=h.at_ hj
 obtain ⟨rfl,rfl⟩ : b=b'∧0=off:=by injection e with e;injection e with e1 e2;exact ⟨e1,e2⟩
 have h2:=key_small ⟨j,hj⟩
 rw [List.getD_eq_getElem?_getD] at h2
 rw [List.getElem?_map,List.getElem?_map,hk] at hs
 rw [List.getElem?_map,hk] at h2
 rw [Nat.zero_add] at hcell
 obtain rfl:=Option.some.inj hs
 exact ⟨⟨hlt,hcell⟩,h2⟩
end Go.Proofs.YtmicohmbmgbnkaaGreatDoor
