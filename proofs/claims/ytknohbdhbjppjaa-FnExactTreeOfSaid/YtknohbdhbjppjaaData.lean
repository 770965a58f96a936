/- The flat element types, plain: the cells of each, and the marks that the laws lay. -/
import Derived.Test.YtknohbdhbjppjaaSlice
namespace Go.Proofs.Ytknohbdhbjppjaa
open Go Go.RowKit

def encI (n : Int) : List Value := [.int .i64 n]
theorem encI_length (n : Int) : (encI n).length = 1 := rfl
def encB (b : Bool) : List Value := [.bool b]
theorem encB_length (b : Bool) : (encB b).length = 1 := rfl
def marksI (k : Int) (n : Nat) : List Int := (List.range n).map fun i : Nat => k + (i : Int)
theorem marksI_length (k : Int) (n : Nat) : (marksI k n).length = n := by simp [marksI]
theorem marksI_get {k : Int} {n i : Nat} (h : i < n) : (marksI k n)[i]? = some (k + (i : Int)) := by simp [marksI, h]
structure Ent where
  k : Int
  v : Int
def Ent.enc (x : Ent) : List Value := [.int .i64 x.k, .int .i64 x.v]
theorem Ent.enc_length (x : Ent) : x.enc.length = 2 := rfl
def marksEnt (k : Int) (n : Nat) : List Ent := (List.range n).map fun i : Nat => ⟨k + 2 * (i : Int), k + 2 * (i : Int) + 1⟩
theorem marksEnt_length (k : Int) (n : Nat) : (marksEnt k n).length = n := by simp [marksEnt]
theorem marksEnt_get {k : Int} {n i : Nat} (h : i < n) : (marksEnt k n)[i]? = some ⟨k + 2 * (i : Int), k + 2 * (i : Int) + 1⟩ := by simp [marksEnt, h]
structure Actn where
  kind : Int
  src : Int
  dst : Int
  amt : Int
def Actn.enc (x : Actn) : List Value := [.int .i64 x.kind, .int .i64 x.src, .int .i64 x.dst, .int .i64 x.amt]
theorem Actn.enc_length (x : Actn) : x.enc.length = 4 := rfl
def marksActn (k : Int) (n : Nat) : List Actn := (List.range n).map fun i : Nat => ⟨k + 4 * (i : Int), k + 4 * (i : Int) + 1, k + 4 * (i : Int) + 1 + 1, k + 4 * (i : Int) + 1 + 1 + 1⟩
theorem marksActn_length (k : Int) (n : Nat) : (marksActn k n).length = n := by simp [marksActn]
theorem marksActn_get {k : Int} {n i : Nat} (h : i < n) : (marksActn k n)[i]? = some ⟨k + 4 * (i : Int), k + 4 * (i : Int) + 1, k + 4 * (i : Int) + 1 + 1, k + 4 * (i : Int) + 1 + 1 + 1⟩ := by simp [marksActn, h]
structure Ver where
  k : Int
  b : Int
  v : Int
def Ver.enc (x : Ver) : List Value := [.int .i64 x.k, .int .i64 x.b, .int .i64 x.v]
theorem Ver.enc_length (x : Ver) : x.enc.length = 3 := rfl
def marksVer (k : Int) (n : Nat) : List Ver := (List.range n).map fun i : Nat => ⟨k + 3 * (i : Int), k + 3 * (i : Int) + 1, k + 3 * (i : Int) + 1 + 1⟩
theorem marksVer_length (k : Int) (n : Nat) : (marksVer k n).length = n := by simp [marksVer]
theorem marksVer_get {k : Int} {n i : Nat} (h : i < n) : (marksVer k n)[i]? = some ⟨k + 3 * (i : Int), k + 3 * (i : Int) + 1, k + 3 * (i : Int) + 1 + 1⟩ := by simp [marksVer, h]
structure Crt where
  s : Int
  v : Int
  g : Int
def Crt.enc (x : Crt) : List Value := [.int .i64 x.s, .int .i64 x.v, .int .i64 x.g]
theorem Crt.enc_length (x : Crt) : x.enc.length = 3 := rfl
def marksCrt (k : Int) (n : Nat) : List Crt := (List.range n).map fun i : Nat => ⟨k + 3 * (i : Int), k + 3 * (i : Int) + 1, k + 3 * (i : Int) + 1 + 1⟩
theorem marksCrt_length (k : Int) (n : Nat) : (marksCrt k n).length = n := by simp [marksCrt]
theorem marksCrt_get {k : Int} {n i : Nat} (h : i < n) : (marksCrt k n)[i]? = some ⟨k + 3 * (i : Int), k + 3 * (i : Int) + 1, k + 3 * (i : Int) + 1 + 1⟩ := by simp [marksCrt, h]
end Go.Proofs.Ytknohbdhbjppjaa
