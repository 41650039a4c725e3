/-
 Numbers as octets, and back; cuts as octets, and back: plain lists. Conditions: none; every lemma names its own.
-/
import Derived.Test.YtfbooejaabdkoaaOCtc
import Derived.Test.YtfbooejaabdkoaaPe
import Derived.Laws.Bits64
import Derived.Laws.Strings
set_option linter.constructorNameAsVariable false
namespace Go.Proofs.Ytfbooejaabdkoaa.AE
open Go Go.Proofs Go.RowKit
set_option linter.unusedVariables false
def be:Nat->Int->List Int
 | 0,_=>[]
 | w + 1,x=>x / 256 ^ w % 256 :: be w x
@[go_sem] theorem be_len:∀ (w:Nat) (x:Int),(be w x).length=w
 | 0,_=>rfl
 | w + 1,x=>by simp [be,be_len w x]
def Oct (l:List Int):Prop:=∀ n ∈ l,0<=n/\n < 256
theorem Oct.nil:Oct []:=by simp [Oct]
theorem Oct.app {l m:List Int} (h:Oct l) (k:Oct m):Oct (l++m):=by
 intro n hn
 rcases List.mem_append.1 hn with h' | h'
 · exact h n h'
 · exact k n h'
theorem Oct.take {l:List Int} (h:Oct l) (n:Nat):Oct (l.take n):=fun x hx=>h x (List.mem_of_mem_take hx)
theorem Oct.drop {l:List Int} (h:Oct l) (n:Nat):Oct (l.drop n):=fun x hx=>h x (List.mem_of_mem_drop hx)
theorem be_oct:∀ (w:Nat) (x:Int),Oct (be w x)
 | 0,_=>Oct.nil
 | w + 1,x=>by
  intro n hn
  simp only [be,List.mem_cons] at hn
  rcases hn with rfl | hn
  · exact ⟨Int.emod_nonneg _ (by omega),Int.emod_lt_of_pos _ (by omega)⟩
  · exact be_oct w x n hn
def beN (l:List Int):Int:=l.foldl (fun n c=>n * 256 + c) 0
theorem beN_snoc (l:List Int) (c:Int):beN (l++[c])=beN l * 256 + c:=by simp [beN]
@[go_sem] theorem beN_nil:beN []=0:=rfl
theorem beN_bound {l:List Int} (h:Oct l):0<=beN l/\beN l < 256 ^ l.length:=by
 have key:∀ (l:List Int) (a:Int) (b:Nat),Oct l->0<=a->a < 256 ^ b->0<=l.foldl (fun n c=>n * 256 + c) a/\l.foldl (fun n c=>n * 256 + c) a < 256 ^ (b + l.length):=by
  intro l
  induction l with
  | nil=>intro a b _ h0 h1; exact ⟨h0,h1⟩
  | cons c l ih=>
   intro a b ho h0 h1
   have hc:=ho c (by simp)
   have:=ih (a * 256 + c) (b + 1) (fun n hn=>ho n (List.mem_cons_of_mem _ hn)) (by omega) (by
    have:(256:Int) ^ (b + 1)=256 ^ b * 256:=Int.pow_succ ..
    rw [this]
    omega)
   simp only [List.foldl_cons,List.length_cons]
   rw [show b + (l.length + 1)=b + 1 + l.length by omega]
   exact this
 have:=key l 0 0 h (by omega) (by omega)
 simpa [beN] using this
theorem mod_split (x b:Int) (hb:0 < b):x % (b * 256)=(x / b % 256) * b + x % b:=by
 have h1:=Int.emod_add_mul_ediv x b
 have h2:=Int.emod_add_mul_ediv (x / b) 256
 have r0:=Int.emod_nonneg x (show b ≠ 0 by omega)
 have r1:=Int.emod_lt_of_pos x hb
 have d0:=Int.emod_nonneg (x / b) (show (256:Int) ≠ 0 by omega)
 have d1:=Int.emod_lt_of_pos (x / b) (show (0:Int) < 256 by omega)
 generalize x / b % 256=d at *
 generalize hq:x / b / 256=q at *
 generalize x % b=r at *
 have e:x=(d * b + r) + (b * 256) * q:=by
  rw [<-h1,<-h2,Int.mul_add,Int.mul_comm b d,<-Int.mul_assoc]
  omega
 have b1:d * b<=255 * b:=Int.mul_le_mul_of_nonneg_right (by omega) (by omega)
 have b0:0<=d * b:=Int.mul_nonneg d0 (by omega)
 rw [e,Int.add_mul_emod_self_left]
 exact Int.emod_eq_of_lt (by omega) (by omega)
theorem foldl_be (x:Int):∀ (w:Nat) (a:Int),(be w x).foldl (fun n c=>n * 256 + c) a=a * 256 ^ w + x % 256 ^ w
 | 0,a=>by simp [be,Int.emod_one]
 | w + 1,a=>by
  have hp:(256:Int) ^ (w + 1)=256 ^ w * 256:=Int.pow_succ ..
  have h0:(0:Int) < 256 ^ w:=Int.pow_pos (by omega)
  simp only [be,List.foldl_cons]
  rw [foldl_be x w,hp,mod_split x _ h0,Int.add_mul,Int.mul_assoc,Int.mul_comm 256 (256 ^ w),Int.add_assoc]
theorem beN_be (w:Nat) (x:Int):beN (be w x)=x % 256 ^ w:=by
 rw [beN,foldl_be]
 simp
theorem or_low (x c:Int) (h0:0<=x) (h1:x < 72057594037927936) (c0:0<=c) (c1:c < 256):bitOr .u64 (x * 256) c=x * 256 + c:=by
 obtain ⟨X,rfl⟩:=Int.eq_ofNat_of_zero_le h0
 obtain ⟨C,rfl⟩:=Int.eq_ofNat_of_zero_le c0
 have e1:BitVec.ofInt 64 (((X:Nat):Int) * 256)=BitVec.ofNat 64 (X <<< 8):=by
  rw [Nat.shiftLeft_eq]
  exact BitVec.ofInt_natCast ..
 have e2:BitVec.ofInt 64 ((C:Nat):Int)=BitVec.ofNat 64 C:=BitVec.ofInt_natCast ..
 have e3:X <<< 8 ||| C=X * 256 + C:=by
  rw [<-Nat.shiftLeft_add_eq_or_of_lt (show C < 2 ^ 8 by omega),Nat.shiftLeft_eq]
 show IntKind.u64.wrap ((BitVec.ofInt 64 ((X:Int) * 256) ||| BitVec.ofInt 64 (C:Int)).toNat:Int)=_
 rw [e1,e2,<-BitVec.ofNat_or,BitVec.toNat_ofNat,e3,IntKind.wrap_u64]
 omega
theorem wrap8 (x:Int):IntKind.u8.wrap x=x % 256:=by simp [IntKind.wrap,IntKind.bits,IntKind.signed]
theorem be_wrap:∀ (w:Nat) (x:Int),w<=8->be w (IntKind.u64.wrap x)=be w x
 | 0,_,_=>rfl
 | w + 1,x,h=>by
  simp only [be]
  rw [be_wrap w x (by omega)]
  congr 1
  rw [IntKind.wrap_u64]
  rcases (show w=0\/w=1\/w=2\/w=3\/w=4\/w=5\/w=6\/w=7 by omega) with rfl | rfl | rfl | rfl | rfl | rfl | rfl | rfl <;> simp only [Int.reducePow] <;> omega
theorem bytesB_toList (l:List Int):(bytesB l).toList=l.map fun n=>UInt8.ofNat n.toNat:=by
 have key:∀ (l:List Int) (b:ByteArray),(l.foldl (fun r n=>r.push (UInt8.ofNat n.toNat)) b).data.toList=b.data.toList++l.map fun n=>UInt8.ofNat n.toNat:=by
  intro l
  induction l with
  | nil=>intro b; simp
  | cons n l ih=>
   intro b
   have hp:(b.push (UInt8.ofNat n.toNat)).data.toList=b.data.toList++[UInt8.ofNat n.toNat]:=by simp [ByteArray.push]
   simp only [List.foldl_cons,ih,hp,List.map_cons,List.append_assoc,List.singleton_append]
 rw [ByteArray.toList_eq]
 have:=key l ByteArray.empty
 simpa [bytesB] using this
theorem bytes_eq {l m:List Int} (hl:Oct l) (hm:Oct m):((bytesB l).toList == (bytesB m).toList)=decide (l=m):=by
 rw [bytesB_toList,bytesB_toList]
 have key:∀ {l m:List Int},Oct l->Oct m->(l.map (fun n=>UInt8.ofNat n.toNat)=m.map (fun n=>UInt8.ofNat n.toNat))->l=m:=by
  intro l
  induction l with
  | nil=>intro m _ _ h; cases m with | nil=>rfl | cons a m=>simp at h
  | cons a l ih=>
   intro m hl hm h
   cases m with
   | nil=>simp at h
   | cons b m=>
    simp only [List.map_cons,List.cons.injEq] at h
    have ha:=hl a (by simp)
    have hb:=hm b (by simp)
    have h1:a=b:=by
     have:=congrArg UInt8.toNat h.1
     simp only [UInt8.toNat_ofNat'] at this
     omega
    rw [h1,ih (fun n hn=>hl n (List.mem_cons_of_mem _ hn)) (fun n hn=>hm n (List.mem_cons_of_mem _ hn)) h.2]
 by_cases h:l=m
 · subst h; simp
 ·
  rw [decide_eq_false h]
  simp only [beq_eq_false_iff_ne]
  exact fun h'=>h (key hl hm h')
abbrev Rd:=Bool × List Int
def rdN (w:Nat) (r:Rd):Int:=if r.1=false/\w<=r.2.length then beN (r.2.take w) else 0
def rdR (w:Nat) (r:Rd):Rd:=if r.1=false/\w<=r.2.length then (false,r.2.drop w) else (true,r.2)
theorem rdR_oct {w:Nat} {r:Rd} (h:Oct r.2):Oct (rdR w r).2:=by
 unfold rdR
 split
 · exact h.drop w
 · exact h
theorem rdR_len (w:Nat) (r:Rd):(rdR w r).2.length<=r.2.length:=by
 unfold rdR
 split
 · simp
 · exact Nat.le_refl _
def tk (w:Nat) (r:Rd):Int:=IntKind.i64.wrap (rdN w r)
theorem rdN_be (w:Nat) (x:Int) (t:List Int):rdN w (false,be w x++t)=x % 256 ^ w:=by
 rw [rdN,if_pos ⟨rfl,by simp [be_len]⟩]
 simp only
 rw [List.take_append_of_le_length (by rw [be_len]; exact Nat.le_refl _),List.take_of_length_le (by rw [be_len]; exact Nat.le_refl _),beN_be]
theorem rdR_be (w:Nat) (x:Int) (t:List Int):rdR w (false,be w x++t)=(false,t):=by
 rw [rdR,if_pos ⟨rfl,by simp [be_len]⟩]
 simp only
 rw [List.drop_append_of_le_length (by rw [be_len]; exact Nat.le_refl _),List.drop_eq_nil_of_le (by rw [be_len]; exact Nat.le_refl _)]
 rfl
theorem tk8 {x:Int} (h:-9223372036854775808<=x/\x<=9223372036854775807) (t:List Int):tk 8 (false,be 8 x++t)=x:=by
 rw [tk,rdN_be,IntKind.wrap_i64]
 simp only [Int.reducePow]
 omega
theorem tk1 {x:Int} (h:0<=x/\x<=255) (t:List Int):tk 1 (false,be 1 x++t)=x:=by
 rw [tk,rdN_be,IntKind.wrap_i64]
 simp only [Int.reducePow]
 omega
theorem tk2 {x:Int} (h:0<=x/\x<=65535) (t:List Int):tk 2 (false,be 2 x++t)=x:=by
 rw [tk,rdN_be,IntKind.wrap_i64]
 simp only [Int.reducePow]
 omega
end Go.Proofs.Ytfbooejaabdkoaa.AE
