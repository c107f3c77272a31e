/- A stand-in for Ints where the layer num is there. -/
import Derived.Test.YteghiappanpogaaNumLists
