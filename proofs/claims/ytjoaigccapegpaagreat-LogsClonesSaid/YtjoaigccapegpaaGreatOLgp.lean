/-
 Chapter 19, plainly: what an addition, and a commitment, leaves; told in two ways. Conditions: none; every lemma names its own.
-/
import Derived.Test.YtjoaigccapegpaaGreatOLg1
set_option linter.constructorNameAsVariable false
namespace Go.Proofs.YtjoaigccapegpaaGreat.AE
open Go Go.Proofs Go.RowKit
set_option linter.unusedVariables false
set_option linter.unusedSimpArgs false
def adC (d r:List Chg) (v u:Vn 4) (c:Chg):Int:=if 48<=d.length + r.length then 3 else if fitsB v u c=false then 9 else if checkB c=false then 4 else 0
def adR (d r:List Chg) (v u:Vn 4) (c:Chg):List Chg:=if adC d r v u c=0 then tputL r c else r
def adV (d r:List Chg) (v u:Vn 4) (c:Chg):Vn 4:=if adC d r v u c=0 then v.put c.id.rep.toNat c.id.seq else v
def adU (d r:List Chg) (v u:Vn 4) (c:Chg):Vn 4:=if adC d r v u c=0 then u.put c.id.rep.toNat c.time else u
def comC (r:List Chg) (a:Id):Int:=if placeC r a < 0 then 14 else if freeC r a=false then 9 else 0
def comD (d r:List Chg) (a:Id):List Chg:=if freeC r a=true then d++[takeC r a] else d
def knR (d r:List Chg):Vn 4:=AE.knownR (d++r) (zV 4)
def rOff (d r:List Chg) (c:Chg):Bool:=(c.id.seq != IntKind.i64.wrap ((knR d r).at c.id.rep.toNat + 1)) || decide (65535 < c.id.seq) || decide (c.time < 1) || decide (1073741824 < c.time) || decide (c.time<=lastT c.id.rep (d++r) 0)
def rAddC (d r:List Chg) (c:Chg):Int:=if 48<=d.length + r.length then 3 else if c.id.rep < 0\/3 < c.id.rep then 9 else if rOff d r c=true then 9 else if checkB c=false then 4 else 0
def rAddR (d r:List Chg) (c:Chg):List Chg:=if rAddC d r c=0 then cputL c r else r
theorem LgI.vlim {d r:List Chg} {v u:Vn 4} (h:LgI d r v u) {i:Nat} (hi:i < 4):0<=v.at i/\v.at i<=48:=by
 obtain ⟨_,h2⟩:=h.sq (i:Int) (by omega) (by omega)
 have h3:=h.len
 have h4:(ofRep (i:Int) (d++r)).length<=(d++r).length:=List.length_filter_le _ _
 simp only [Int.toNat_natCast] at h2
 omega
theorem fits_iff {d r:List Chg} {v u:Vn 4} (h:LgI d r v u) (c:Chg):fitsB v u c=true ↔ (0<=c.id.rep/\c.id.rep < 4)/\c.id.seq=v.at c.id.rep.toNat + 1/\1<=c.time/\c.time<=1073741824/\u.at c.id.rep.toNat < c.time:=by
 by_cases hr:0<=c.id.rep/\c.id.rep < 4
 ·
  obtain ⟨l1,l2⟩:=h.vlim (i:=c.id.rep.toNat) (by omega)
  have hw:IntKind.i64.wrap (v.at c.id.rep.toNat + 1)=v.at c.id.rep.toNat + 1:=wA_ (by omega)
  cases hm:mayI c.id with
  | true=>
   rw [fits_eq hm,hw]
   simp only [Bool.and_eq_true,decide_eq_true_eq,beq_iff_eq]
   constructor
   · rintro ⟨h1,h2,h3,h4,h5⟩; exact ⟨hr,h2,h3,h4,h5⟩
   · rintro ⟨_,h2,h3,h4,h5⟩; exact ⟨by omega,h2,h3,h4,h5⟩
  | false=>
   simp only [fitsB,hm,Bool.false_and]
   simp only [mayI,decide_eq_false_iff_not] at hm
   constructor
   · intro h; cases h
   ·
    rintro ⟨_,h2,_⟩
    exact absurd ⟨hr.1,hr.2,by omega,by omega⟩ hm
 ·
  constructor
  ·
   intro hf
   have hm:mayI c.id=true:=by
    cases hm:mayI c.id
    · simp [fitsB,hm] at hf
    · rfl
   have:=mayI_rng hm
   omega
  ·
   rintro ⟨h1,_⟩
   exact absurd h1 hr
theorem add_code {d r:List Chg} {v u:Vn 4} (h:LgI d r v u) (c:Chg):rAddC d r c=adC d r v u c:=by
 unfold rAddC adC
 by_cases h0:48<=d.length + r.length
 · rw [if_pos h0,if_pos h0]
 ·
  rw [if_neg h0,if_neg h0]
  by_cases hr:c.id.rep < 0\/3 < c.id.rep
  ·
   rw [if_pos hr,if_pos]
   cases hf:fitsB v u c
   · rfl
   ·
    have:=(fits_iff h c).1 hf
    omega
  ·
   rw [if_neg hr]
   have hr2:0<=c.id.rep/\c.id.rep < 4:=by omega
   obtain ⟨l1,l2⟩:=h.vlim (i:=c.id.rep.toNat) (by omega)
   have hk:knR d r=v:=h.knownR
   have hl:lastT c.id.rep (d++r) 0=u.at c.id.rep.toNat:=by
    have:=h.last (i:=c.id.rep.toNat) (by omega)
    rwa [show ((c.id.rep.toNat:Nat):Int)=c.id.rep by omega] at this
   have hw:IntKind.i64.wrap (v.at c.id.rep.toNat + 1)=v.at c.id.rep.toNat + 1:=wA_ (by omega)
   have e:rOff d r c=!(fitsB v u c):=by
    rw [Bool.eq_iff_iff]
    have hi:=fits_iff h c
    simp only [rOff,hk,hl,hw,Bool.or_eq_true,decide_eq_true_eq,bne_iff_ne,Bool.not_eq_true']
    cases hf:fitsB v u c
    ·
     rw [hf] at hi
     simp only [Bool.false_eq_true,false_iff] at hi
     simp only [iff_true]
     omega
    ·
     rw [hf] at hi
     simp only [true_iff] at hi
     simp only [Bool.true_eq_false,iff_false]
     omega
   rw [e]
   cases hf:fitsB v u c <;> simp
theorem add_lgI {d r:List Chg} {v u:Vn 4} (h:LgI d r v u) (c:Chg):LgI d (adR d r v u c) (adV d r v u c) (adU d r v u c)/\adR d r v u c=rAddR d r c:=by
 unfold adR adV adU rAddR
 rw [add_code h c]
 by_cases hc:adC d r v u c=0
 ·
  rw [if_pos hc,if_pos hc,if_pos hc,if_pos hc]
  have hc':=hc
  unfold adC at hc
  by_cases h0:48<=d.length + r.length
  · rw [if_pos h0] at hc; omega
  ·
   rw [if_neg h0] at hc
   cases hf:fitsB v u c
   · rw [if_pos hf] at hc; omega
   ·
    obtain ⟨⟨g1,g2⟩,g3,g4,g5,g6⟩:=(fits_iff h c).1 hf
    have hn:∀ x ∈ d++r,x.id ≠ c.id:=h.new g1 g2 (by omega)
    have hp:¬ 0<=placeC r c.id:=by
     intro hp
     rcases placeC_at r c.id with hq | ⟨k,x,k1,k2,k3,k4⟩
     · omega
     · exact hn x (by simp [List.mem_of_getElem? k3]) k4
    have ht:tputL r c=cputL c r:=if_neg hp
    rw [ht]
    exact ⟨h.put g1 g2 g3 g4 g6 (by simp; omega),rfl⟩
 ·
  rw [if_neg hc,if_neg hc,if_neg hc,if_neg hc]
  exact ⟨h,rfl⟩
theorem com_lgI {d r:List Chg} {v u:Vn 4} (h:LgI d r v u) (a:Id):LgI (comD d r a) (takeL r a) v u:=by
 unfold comD
 cases hf:freeC r a
 ·
  rw [if_neg (by simp),show takeL r a=r from if_neg (by simp [hf])]
  exact h
 ·
  rw [if_pos rfl]
  obtain ⟨k,c,k1,k2,k3,k4,k5,k6,k7⟩:=freeC_at hf
  rw [k5,k6]
  exact h.commit k3 (by rw [k4]; exact k7)
end Go.Proofs.YtjoaigccapegpaaGreat.AE
