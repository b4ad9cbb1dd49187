/-
  Nothing of its own: the shelf has strconv.Atoi.
-/
import Derived.Test.YtpmfmjgnhdfakaaGreatDoorShelf
